/-
  Functions of the program, lifted: each with its walk. Printed by lift.py.
  Nothing here is trusted.
-/
import Derived.Test.YtcnofjjiepcpjaaLiftW3
set_option linter.unusedVariables false
set_option linter.unusedSimpArgs false
namespace Go.Proofs.Ytcnofjjiepcpjaa
open Go Go.Eng

/-- placard/window.Column -/
noncomputable def g28 (a0 : Int) (a1 : Int) (a2 : List Int) : Option (Int) :=
  (g67 a0 0 ((a2.length : Nat) : Int)).bind fun v1 =>
  if a1 < 0 then
    some 0
  else
    (
      if v1 < a1 then
        some 0
      else
        (
          jn (α := _) (β := Int) (fun k38 =>
              ck (0 ≤ a1 ∧ a1 ≤ v1 ∧ v1 ≤ ((a2.length : Nat) : Int)) <|
              (loopO (σ := Int × Int) (ρ := Int) (fun s41 =>
                  if s41.2 < ((v1.toNat - a1.toNat : Nat) : Int) then
                    (
                      ck (0 ≤ s41.2 ∧ s41.2 < ((v1.toNat - a1.toNat : Nat) : Int)) <|
                      (g69 (((a2.drop a1.toNat).take (v1.toNat - a1.toNat)).getD s41.2.toNat 0)).bind fun v58 =>
                      ck (inR .i64 (s41.1 + v58)) <|
                      ck (inR .i64 (s41.2 + 1)) <|
                      some (.go (s41.1 + v58, s41.2 + 1))
                    )
                  else
                    some (.out s41.1)
                ) (0, 0)).bind fun o55 =>
                k38 o55
          ) (fun v37 =>
            some v37
          )
        )
    )
noncomputable def k28 : Eng.CS := { f := 28, calm := true, more := 0, ι := Int × Int × (List Int) × Int, ok := fun i => g28 i.1 i.2.1 i.2.2.1 = some i.2.2.2, rds := fun _ => [], args := fun i => [.w (.v (.int .i64 (i.1))), .w (.v (.int .i64 (i.2.1))), .sl 1 i.2.2.1.length (ei .i64 i.2.2.1)], res := fun i => .v (.int .i64 (i.2.2.2)) }
set_option maxRecDepth 8000 in
set_option maxHeartbeats 4000000 in
theorem k28_ok : CalmOk Try.prog k28 := by
  refine R.calmspec Try.func28 nm28 rfl ?_
  rintro ⟨a0, a1, a2, r⟩ hok q _ args hargs
  match args, hargs with
  | [_, _, _], hargs =>
  obtain ⟨rfl, rfl, ⟨A2, cp2, rfl, hc2, _, hR2⟩, _⟩ := hargs
  refine ⟨envC [k67, k69] false [(28, 8)], 6, envC_ok (css_cons ⟨fun _ => k67_ok, fun h => (by cases h)⟩ (css_cons ⟨fun _ => k69_ok, fun h => (by cases h)⟩ (css_nil))), rfl, (by intro x hx; simp only [List.mem_cons, List.not_mem_nil, or_false] at hx; rcases hx with rfl | rfl | rfl <;> rfl), ?_⟩
  have H : Gives (g28 a0 a1 a2) (fun a => a = r) := ⟨r, hok, rfl⟩
  unfold g28 at H
  clear hok
  obtain ⟨v1, hv2, H⟩ := call_st H
  refine ⟨(a0, 0, ((a2.length : Nat) : Int), v1), ⟨hv2⟩, ⟨trivial⟩, ?_⟩
  refine And.intro ⟨rfl⟩ ?_
  refine And.intro ⟨rfl⟩ ?_
  refine And.intro ⟨rfl⟩ ?_
  refine if_st H (fun h6 H => ?_) (fun h6 H => ?_)
  · have hfin := fin_st H
    repeat (refine And.intro (Ob.mk (by first | (rw [← hfin] <;> first | exact rfl | exact Iff.rfl | exact ⟨rfl, rfl⟩ | exact decide_eq_true_iff | (constructor <;> first | rfl | simp [ei, eb, es, ec]) | simp [ei, eb, es, ec]) | first | exact rfl | exact Iff.rfl | exact ⟨rfl, rfl⟩ | exact decide_eq_true_iff | (constructor <;> first | rfl | simp [ei, eb, es, ec]) | simp [ei, eb, es, ec])) ?_)
    first | exact trivial | exact rfl
  · refine if_st H (fun h7 H => ?_) (fun h7 H => ?_)
    · have hfin := fin_st H
      repeat (refine And.intro (Ob.mk (by first | (rw [← hfin] <;> first | exact rfl | exact Iff.rfl | exact ⟨rfl, rfl⟩ | exact decide_eq_true_iff | (constructor <;> first | rfl | simp [ei, eb, es, ec]) | simp [ei, eb, es, ec]) | first | exact rfl | exact Iff.rfl | exact ⟨rfl, rfl⟩ | exact decide_eq_true_iff | (constructor <;> first | rfl | simp [ei, eb, es, ec]) | simp [ei, eb, es, ec])) ?_)
      first | exact trivial | exact rfl
    · refine R.cut_fam H 32 [8] [] (fun v37 => []) (fun v37 => [(13, .cells 3 [.v (.int .i64 (v37))])]) [(25, .dfr)] 0 (fun H => ?_)
      refine And.intro ?_ ?_
      · refine ob_sl hc2 H fun h39 H => ?_
        have hs40 := sl_ei hR2 rfl hc2 h39
        refine R.loop_fam (bind_st H) [0, 5, 6] [] (fun _ s41 => [(7, .v (.int .i64 (s41.2)))]) (fun _ s41 => [(13, .cells 3 [.v (.int .i64 (s41.1))])]) 0 (fun n62 H => ?_)
        refine ⟨(n62, _), ⟨H⟩, trivial, ?_⟩
        repeat (refine And.intro (Ob.mk (by first | exact rfl | exact Iff.rfl | exact ⟨rfl, rfl⟩ | exact decide_eq_true_iff | (constructor <;> first | rfl | simp [ei, eb, es, ec]) | simp [ei, eb, es, ec])) ?_)
        rintro ⟨m0, s41⟩ H _
        obtain ⟨m42, hm0, H⟩ := IG_succ H
        dsimp only at hm0
        subst hm0
        try dsimp only at H
        refine if_st H (fun h56 H => ?_) (fun h56 H => ?_)
        · refine ob_ix hs40.1 (by rw [ei_len, hs40.2.1]; exact id) H fun h57 H => ?_
          refine ld_int (e := ((a2.drop a1.toNat).take (v1.toNat - a1.toNat)).getD s41.2.toNat 0) (rd_get hs40.1 (ei_get (l := ((a2.drop a1.toNat).take (v1.toNat - a1.toNat))) (by have := tn h57; rw [← hs40.2.1] at this; exact this))) ?_
          obtain ⟨v58, hv59, H⟩ := call_st H
          refine ⟨(((a2.drop a1.toNat).take (v1.toNat - a1.toNat)).getD s41.2.toNat 0, v58), ⟨hv59⟩, ⟨trivial⟩, ?_⟩
          refine And.intro ⟨rfl⟩ ?_
          refine ob_ck H fun h60 H => ?_
          refine ob_ck H fun h61 H => ?_
          replace H := some_st H
          refine ⟨(m42, (s41.1 + v58, s41.2 + 1)), ⟨H, Nat.lt_succ_self _⟩, trivial, ⟨rfl⟩, ?_⟩
          repeat (refine And.intro (Ob.mk (by first | exact rfl | exact Iff.rfl | exact ⟨rfl, rfl⟩ | exact decide_eq_true_iff | (constructor <;> first | rfl | simp [ei, eb, es, ec]) | simp [ei, eb, es, ec])) ?_)
          first | exact trivial | exact rfl
        · replace H := some_st H
          dsimp only [stp, sm] at H
          refine ⟨s41.1, ⟨H⟩, ⟨rfl⟩, ?_⟩
          repeat (refine And.intro (Ob.mk (by first | exact rfl | exact Iff.rfl | exact ⟨rfl, rfl⟩ | exact decide_eq_true_iff | (constructor <;> first | rfl | simp [ei, eb, es, ec]) | simp [ei, eb, es, ec])) ?_)
          first | exact trivial | exact rfl
      · intro v37 H
        have hfin := fin_st H
        repeat (refine And.intro (Ob.mk (by first | (rw [← hfin] <;> first | exact rfl | exact Iff.rfl | exact ⟨rfl, rfl⟩ | exact decide_eq_true_iff | (constructor <;> first | rfl | simp [ei, eb, es, ec]) | simp [ei, eb, es, ec]) | first | exact rfl | exact Iff.rfl | exact ⟨rfl, rfl⟩ | exact decide_eq_true_iff | (constructor <;> first | rfl | simp [ei, eb, es, ec]) | simp [ei, eb, es, ec])) ?_)
        first | exact trivial | exact rfl

/-- placard/placardlaw15.WindowLines -/
noncomputable def g5 (a0 : Int) (a1 : Int) (a2 : Int) (a3 : List Int) : Option (Bool) :=
  ck (0 ≤ (0 : Int) ∧ (0 : Int) ≤ gmin ((a3.length : Nat) : Int) 200 ∧ gmin ((a3.length : Nat) : Int) 200 ≤ ((a3.length : Nat) : Int)) <|
  (g26 a0 a1 ((a3.drop (0 : Int).toNat).take ((gmin ((a3.length : Nat) : Int) 200).toNat - (0 : Int).toNat))).bind fun v65 =>
  (g27 a0 a1 ((a3.drop (0 : Int).toNat).take ((gmin ((a3.length : Nat) : Int) 200).toNat - (0 : Int).toNat))).bind fun v67 =>
  if ¬ v65.1 = v67.1 then
    some false
  else
    (
      if ¬ v65.2 = v67.2 then
        some false
      else
        (
          (g28 a0 a2 ((a3.drop (0 : Int).toNat).take ((gmin ((a3.length : Nat) : Int) 200).toNat - (0 : Int).toNat))).bind fun v84 =>
          (g29 a0 a2 ((a3.drop (0 : Int).toNat).take ((gmin ((a3.length : Nat) : Int) 200).toNat - (0 : Int).toNat))).bind fun v86 =>
          if ¬ v84 = v86 then
            some false
          else
            (
              if 2 ≤ a1 then
                (
                  if (gmax 0 (gmin a0 (((gmin ((a3.length : Nat) : Int) 200).toNat - (0 : Int).toNat : Nat) : Int))) < v65.1 then
                    some false
                  else
                    (
                      if v65.2 < (gmax 0 (gmin a0 (((gmin ((a3.length : Nat) : Int) 200).toNat - (0 : Int).toNat : Nat) : Int))) then
                        some false
                      else
                        (
                          if (gmax 0 (gmin a0 (((gmin ((a3.length : Nat) : Int) 200).toNat - (0 : Int).toNat : Nat) : Int))) < (((gmin ((a3.length : Nat) : Int) 200).toNat - (0 : Int).toNat : Nat) : Int) then
                            (
                              if v65.2 ≤ (gmax 0 (gmin a0 (((gmin ((a3.length : Nat) : Int) 200).toNat - (0 : Int).toNat : Nat) : Int))) then
                                some false
                              else
                                (
                                  (g24).bind fun v103 =>
                                  some v103
                                )
                            )
                          else
                            (
                              (g24).bind fun v105 =>
                              some v105
                            )
                        )
                    )
                )
              else
                (
                  (g24).bind fun v107 =>
                  some v107
                )
            )
        )
    )
noncomputable def k5 : Eng.CS := { f := 5, calm := true, more := 0, ι := Int × Int × Int × (List Int) × Bool, ok := fun i => g5 i.1 i.2.1 i.2.2.1 i.2.2.2.1 = some i.2.2.2.2, rds := fun _ => [], args := fun i => [.w (.v (.int .i64 (i.1))), .w (.v (.int .i64 (i.2.1))), .w (.v (.int .i64 (i.2.2.1))), .sl 1 i.2.2.2.1.length (ei .i64 i.2.2.2.1)], res := fun i => bS i.2.2.2.2 }
set_option maxRecDepth 8000 in
set_option maxHeartbeats 4000000 in
theorem k5_ok : CalmOk Try.prog k5 := by
  refine R.calmspec Try.func5 nm5 rfl ?_
  rintro ⟨a0, a1, a2, a3, r⟩ hok q _ args hargs
  match args, hargs with
  | [_, _, _, _], hargs =>
  obtain ⟨rfl, rfl, rfl, ⟨A3, cp3, rfl, hc3, _, hR3⟩, _⟩ := hargs
  refine ⟨envC [k24, k26, k27, k28, k29] false [], 6, envC_ok (css_cons ⟨fun _ => k24_ok, fun h => (by cases h)⟩ (css_cons ⟨fun _ => k26_ok, fun h => (by cases h)⟩ (css_cons ⟨fun _ => k27_ok, fun h => (by cases h)⟩ (css_cons ⟨fun _ => k28_ok, fun h => (by cases h)⟩ (css_cons ⟨fun _ => k29_ok, fun h => (by cases h)⟩ (css_nil)))))), rfl, (by intro x hx; simp only [List.mem_cons, List.not_mem_nil, or_false] at hx; rcases hx with rfl | rfl | rfl | rfl <;> rfl), ?_⟩
  have H : Gives (g5 a0 a1 a2 a3) (fun a => a = r) := ⟨r, hok, rfl⟩
  unfold g5 at H
  clear hok
  refine ob_sl hc3 H fun h63 H => ?_
  have hs64 := sl_ei hR3 rfl hc3 h63
  obtain ⟨v65, hv66, H⟩ := call_st H
  refine ⟨(a0, a1, ((a3.drop (0 : Int).toNat).take ((gmin ((a3.length : Nat) : Int) 200).toNat - (0 : Int).toNat)), v65), ⟨hv66⟩, ⟨trivial⟩, ?_⟩
  refine And.intro ⟨rfl⟩ ?_
  refine And.intro ⟨rfl⟩ ?_
  refine And.intro ⟨(hs64.2.1).symm, hs64.2.2, ei_len.trans ((show _ = _ from hs64.2.1).trans (Nat.mul_one _).symm), hs64.1⟩ ?_
  obtain ⟨v67, hv68, H⟩ := call_st H
  refine ⟨(a0, a1, ((a3.drop (0 : Int).toNat).take ((gmin ((a3.length : Nat) : Int) 200).toNat - (0 : Int).toNat)), v67), ⟨hv68⟩, ⟨trivial⟩, ?_⟩
  refine And.intro ⟨rfl⟩ ?_
  refine And.intro ⟨rfl⟩ ?_
  refine And.intro ⟨(hs64.2.1).symm, hs64.2.2, ei_len.trans ((show _ = _ from hs64.2.1).trans (Nat.mul_one _).symm), hs64.1⟩ ?_
  refine if_st H (fun h82 H => ?_) (fun h82 H => ?_)
  · have hfin := fin_st H
    repeat (refine And.intro (Ob.mk (by first | (rw [← hfin] <;> first | exact rfl | exact Iff.rfl | exact ⟨rfl, rfl⟩ | exact decide_eq_true_iff | (constructor <;> first | rfl | simp [ei, eb, es, ec]) | simp [ei, eb, es, ec]) | first | exact rfl | exact Iff.rfl | exact ⟨rfl, rfl⟩ | exact decide_eq_true_iff | (constructor <;> first | rfl | simp [ei, eb, es, ec]) | simp [ei, eb, es, ec])) ?_)
    first | exact trivial | exact rfl
  · refine if_st H (fun h83 H => ?_) (fun h83 H => ?_)
    · have hfin := fin_st H
      repeat (refine And.intro (Ob.mk (by first | (rw [← hfin] <;> first | exact rfl | exact Iff.rfl | exact ⟨rfl, rfl⟩ | exact decide_eq_true_iff | (constructor <;> first | rfl | simp [ei, eb, es, ec]) | simp [ei, eb, es, ec]) | first | exact rfl | exact Iff.rfl | exact ⟨rfl, rfl⟩ | exact decide_eq_true_iff | (constructor <;> first | rfl | simp [ei, eb, es, ec]) | simp [ei, eb, es, ec])) ?_)
      first | exact trivial | exact rfl
    · obtain ⟨v84, hv85, H⟩ := call_st H
      refine ⟨(a0, a2, ((a3.drop (0 : Int).toNat).take ((gmin ((a3.length : Nat) : Int) 200).toNat - (0 : Int).toNat)), v84), ⟨hv85⟩, ⟨trivial⟩, ?_⟩
      refine And.intro ⟨rfl⟩ ?_
      refine And.intro ⟨rfl⟩ ?_
      refine And.intro ⟨(hs64.2.1).symm, hs64.2.2, ei_len.trans ((show _ = _ from hs64.2.1).trans (Nat.mul_one _).symm), hs64.1⟩ ?_
      obtain ⟨v86, hv87, H⟩ := call_st H
      refine ⟨(a0, a2, ((a3.drop (0 : Int).toNat).take ((gmin ((a3.length : Nat) : Int) 200).toNat - (0 : Int).toNat)), v86), ⟨hv87⟩, ⟨trivial⟩, ?_⟩
      refine And.intro ⟨rfl⟩ ?_
      refine And.intro ⟨rfl⟩ ?_
      refine And.intro ⟨(hs64.2.1).symm, hs64.2.2, ei_len.trans ((show _ = _ from hs64.2.1).trans (Nat.mul_one _).symm), hs64.1⟩ ?_
      refine if_st H (fun h88 H => ?_) (fun h88 H => ?_)
      · have hfin := fin_st H
        repeat (refine And.intro (Ob.mk (by first | (rw [← hfin] <;> first | exact rfl | exact Iff.rfl | exact ⟨rfl, rfl⟩ | exact decide_eq_true_iff | (constructor <;> first | rfl | simp [ei, eb, es, ec]) | simp [ei, eb, es, ec]) | first | exact rfl | exact Iff.rfl | exact ⟨rfl, rfl⟩ | exact decide_eq_true_iff | (constructor <;> first | rfl | simp [ei, eb, es, ec]) | simp [ei, eb, es, ec])) ?_)
        first | exact trivial | exact rfl
      · refine if_st H (fun h98 H => ?_) (fun h98 H => ?_)
        · refine if_st H (fun h99 H => ?_) (fun h99 H => ?_)
          · have hfin := fin_st H
            repeat (refine And.intro (Ob.mk (by first | (rw [← hfin] <;> first | exact rfl | exact Iff.rfl | exact ⟨rfl, rfl⟩ | exact decide_eq_true_iff | (constructor <;> first | rfl | simp [ei, eb, es, ec]) | simp [ei, eb, es, ec]) | first | exact rfl | exact Iff.rfl | exact ⟨rfl, rfl⟩ | exact decide_eq_true_iff | (constructor <;> first | rfl | simp [ei, eb, es, ec]) | simp [ei, eb, es, ec])) ?_)
            first | exact trivial | exact rfl
          · refine if_st H (fun h100 H => ?_) (fun h100 H => ?_)
            · have hfin := fin_st H
              repeat (refine And.intro (Ob.mk (by first | (rw [← hfin] <;> first | exact rfl | exact Iff.rfl | exact ⟨rfl, rfl⟩ | exact decide_eq_true_iff | (constructor <;> first | rfl | simp [ei, eb, es, ec]) | simp [ei, eb, es, ec]) | first | exact rfl | exact Iff.rfl | exact ⟨rfl, rfl⟩ | exact decide_eq_true_iff | (constructor <;> first | rfl | simp [ei, eb, es, ec]) | simp [ei, eb, es, ec])) ?_)
              first | exact trivial | exact rfl
            · refine if_st H (fun h101 H => ?_) (fun h101 H => ?_)
              · refine if_st H (fun h102 H => ?_) (fun h102 H => ?_)
                · have hfin := fin_st H
                  repeat (refine And.intro (Ob.mk (by first | (rw [← hfin] <;> first | exact rfl | exact Iff.rfl | exact ⟨rfl, rfl⟩ | exact decide_eq_true_iff | (constructor <;> first | rfl | simp [ei, eb, es, ec]) | simp [ei, eb, es, ec]) | first | exact rfl | exact Iff.rfl | exact ⟨rfl, rfl⟩ | exact decide_eq_true_iff | (constructor <;> first | rfl | simp [ei, eb, es, ec]) | simp [ei, eb, es, ec])) ?_)
                  first | exact trivial | exact rfl
                · obtain ⟨v103, hv104, H⟩ := call_st H
                  refine ⟨v103, ⟨hv104⟩, ⟨trivial⟩, ?_⟩
                  have hfin := fin_st H
                  repeat (refine And.intro (Ob.mk (by first | (rw [← hfin] <;> first | exact rfl | exact Iff.rfl | exact ⟨rfl, rfl⟩ | exact decide_eq_true_iff | (constructor <;> first | rfl | simp [ei, eb, es, ec]) | simp [ei, eb, es, ec]) | first | exact rfl | exact Iff.rfl | exact ⟨rfl, rfl⟩ | exact decide_eq_true_iff | (constructor <;> first | rfl | simp [ei, eb, es, ec]) | simp [ei, eb, es, ec])) ?_)
                  first | exact trivial | exact rfl
              · obtain ⟨v105, hv106, H⟩ := call_st H
                refine ⟨v105, ⟨hv106⟩, ⟨trivial⟩, ?_⟩
                have hfin := fin_st H
                repeat (refine And.intro (Ob.mk (by first | (rw [← hfin] <;> first | exact rfl | exact Iff.rfl | exact ⟨rfl, rfl⟩ | exact decide_eq_true_iff | (constructor <;> first | rfl | simp [ei, eb, es, ec]) | simp [ei, eb, es, ec]) | first | exact rfl | exact Iff.rfl | exact ⟨rfl, rfl⟩ | exact decide_eq_true_iff | (constructor <;> first | rfl | simp [ei, eb, es, ec]) | simp [ei, eb, es, ec])) ?_)
                first | exact trivial | exact rfl
        · obtain ⟨v107, hv108, H⟩ := call_st H
          refine ⟨v107, ⟨hv108⟩, ⟨trivial⟩, ?_⟩
          have hfin := fin_st H
          repeat (refine And.intro (Ob.mk (by first | (rw [← hfin] <;> first | exact rfl | exact Iff.rfl | exact ⟨rfl, rfl⟩ | exact decide_eq_true_iff | (constructor <;> first | rfl | simp [ei, eb, es, ec]) | simp [ei, eb, es, ec]) | first | exact rfl | exact Iff.rfl | exact ⟨rfl, rfl⟩ | exact decide_eq_true_iff | (constructor <;> first | rfl | simp [ei, eb, es, ec]) | simp [ei, eb, es, ec])) ?_)
          first | exact trivial | exact rfl

end Go.Proofs.Ytcnofjjiepcpjaa
