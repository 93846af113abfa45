/-
  Functions of the program, lifted: each with its walk. Printed by lift.py.
  Nothing here is trusted.
-/
import Derived.Test.YtcnofjjiepcpjaaLiftL2
set_option linter.unusedVariables false
set_option linter.unusedSimpArgs false
namespace Go.Proofs.Ytcnofjjiepcpjaa
open Go Go.Eng

/-- placard/placardlaw16.LayoutSizes -/
noncomputable def g12 (a0 : Int) (a1 : Int) (a2 : List (Int × Int × Int × Int)) : Option (Bool) :=
  jn (α := _) (β := List (Int × Int × Int × Int)) (fun k11 =>
      if 65 < ((a2.length : Nat) : Int) then
        (
          ck (0 ≤ (0 : Int) ∧ (0 : Int) ≤ (65 : Int) ∧ (65 : Int) ≤ ((a2.length : Nat) : Int)) <|
          k11 ((a2.drop (0 : Int).toNat).take ((65 : Int).toNat - (0 : Int).toNat))
        )
      else
        k11 a2
  ) (fun v10 =>
    (g50 a1 v10).bind fun v19 =>
    (g51 a1 v10).bind fun v21 =>
    (g38 a0 a1 v10).bind fun v23 =>
    (g52 a0 a1 v10).bind fun v25 =>
    (g37 a0 a1 v10).bind fun v27 =>
    (g53 a0 a1 v10).bind fun v29 =>
    if v19.1 = v21.1 then
      (
        if v19.2 = v21.2 then
          (
            (g39 v23.1 v25.1).bind fun v33 =>
            if v33 = true then
              (
                if v23.2 = v25.2 then
                  (
                    (g42 v27.1 v29.1).bind fun v37 =>
                    if v37 = true then
                      (
                        if v27.2 = v29.2 then
                          (
                            (g35 a0 a1 v10).bind fun v41 =>
                            (g34 a0 a1 v10).bind fun v43 =>
                            if v41 = v43 then
                              (
                                (g36).bind fun v46 =>
                                some v46
                              )
                            else
                              some false
                          )
                        else
                          some false
                      )
                    else
                      some false
                  )
                else
                  some false
              )
            else
              some false
          )
        else
          some false
      )
    else
      some false
  )
noncomputable def k12 : Eng.CS := { f := 12, calm := true, more := 0, ι := Int × Int × (List (Int × Int × Int × Int)) × Bool, ok := fun i => g12 i.1 i.2.1 i.2.2.1 = some i.2.2.2, rds := fun _ => [], args := fun i => [.w (.v (.int .i64 (i.1))), .w (.v (.int .i64 (i.2.1))), .sl 4 i.2.2.1.length (ec c58 i.2.2.1)], res := fun i => bS i.2.2.2 }
set_option maxRecDepth 8000 in
set_option maxHeartbeats 4000000 in
theorem k12_ok : CalmOk Try.prog k12 := by
  refine R.calmspec Try.func12 nm12 rfl ?_
  rintro ⟨a0, a1, a2, r⟩ hok q _ args hargs
  match args, hargs with
  | [_, _, _], hargs =>
  obtain ⟨rfl, rfl, ⟨A2, cp2, rfl, hc2, _, hR2⟩, _⟩ := hargs
  refine ⟨envC [k34, k35, k36, k37, k38, k39, k42, k50, k51, k52, k53] false [(12, 2)], 6, envC_ok (css_cons ⟨fun _ => k34_ok, fun h => (by cases h)⟩ (css_cons ⟨fun _ => k35_ok, fun h => (by cases h)⟩ (css_cons ⟨fun _ => k36_ok, fun h => (by cases h)⟩ (css_cons ⟨fun h => (by cases h), fun _ => k37_ok⟩ (css_cons ⟨fun h => (by cases h), fun _ => k38_ok⟩ (css_cons ⟨fun _ => k39_ok, fun h => (by cases h)⟩ (css_cons ⟨fun _ => k42_ok, fun h => (by cases h)⟩ (css_cons ⟨fun _ => k50_ok, fun h => (by cases h)⟩ (css_cons ⟨fun _ => k51_ok, fun h => (by cases h)⟩ (css_cons ⟨fun h => (by cases h), fun _ => k52_ok⟩ (css_cons ⟨fun h => (by cases h), fun _ => k53_ok⟩ (css_nil)))))))))))), rfl, (by intro x hx; simp only [List.mem_cons, List.not_mem_nil, or_false] at hx; rcases hx with rfl | rfl | rfl <;> rfl), ?_⟩
  have H : Gives (g12 a0 a1 a2) (fun a => a = r) := ⟨r, hok, rfl⟩
  unfold g12 at H
  clear hok
  refine R.cut_famX H 12 [0, 1] [] (fun (v10 : List (Int × Int × Int × Int)) (g : (Option Addr × Nat)) => [(2, .v (.slice ((g.1)) (v10.length) ((g.2))))]) (fun (v10 : List (Int × Int × Int × Int)) (g : (Option Addr × Nat)) => []) [] 0 (fun q (v10 : List (Int × Int × Int × Int)) (g : (Option Addr × Nat)) => Reads q g.1 (ec c58 v10) ∧ v10.length ≤ g.2) (fun H => ?_)
  refine And.intro ?_ ?_
  · refine if_st H (fun h12 H => ?_) (fun h12 H => ?_)
    · refine ob_sl hc2 H fun h13 H => ?_
      have hs14 := sl_ec c58_len hR2 rfl hc2 h13
      refine ⟨(((a2.drop (0 : Int).toNat).take ((65 : Int).toNat - (0 : Int).toNat)), (if cp2 = (0 : Int).toNat then A2 else A2.map (·.add ((0 : Int).toNat * 4)), cp2 - (0 : Int).toNat)), ⟨H, hs14.1, (Nat.le_trans (Nat.le_of_eq (show _ = _ from hs14.2.1)) hs14.2.2)⟩, ⟨rfl⟩, ?_⟩
      repeat (refine And.intro (Ob.mk (by first | exact congrArg (fun m => Value.slice _ m _) (show _ = _ from hs14.2.1) | first | exact rfl | exact Iff.rfl | exact ⟨rfl, rfl⟩ | exact decide_eq_true_iff | (constructor <;> first | rfl | simp [ei, eb, es, ec, c58]) | simp [ei, eb, es, ec, c58])) ?_)
      first | exact trivial | exact rfl
    · refine ⟨(a2, (A2, cp2)), ⟨H, hR2, hc2⟩, ⟨rfl⟩, ?_⟩
      repeat (refine And.intro (Ob.mk (by first | exact rfl | exact Iff.rfl | exact ⟨rfl, rfl⟩ | exact decide_eq_true_iff | (constructor <;> first | rfl | simp [ei, eb, es, ec, c58]) | simp [ei, eb, es, ec, c58])) ?_)
      first | exact trivial | exact rfl
  · rintro ⟨v10, ⟨A15, c16⟩⟩ ⟨H, hR17, hc18⟩
    dsimp only at H hR17 hc18
    obtain ⟨v19, hv20, H⟩ := call_st H
    refine ⟨(a1, v10, v19), ⟨hv20⟩, ⟨trivial⟩, ?_⟩
    refine And.intro ⟨rfl⟩ ?_
    refine And.intro ⟨rfl, hc18, (ec_len c58_len).trans (congrArg (· * 4) (show _ = _ from rfl)), hR17⟩ ?_
    obtain ⟨v21, hv22, H⟩ := call_st H
    refine ⟨(a1, v10, v21), ⟨hv22⟩, ⟨trivial⟩, ?_⟩
    refine And.intro ⟨rfl⟩ ?_
    refine And.intro ⟨rfl, hc18, (ec_len c58_len).trans (congrArg (· * 4) (show _ = _ from rfl)), hR17⟩ ?_
    obtain ⟨v23, hv24, H⟩ := call_st H
    refine ⟨(a0, a1, v10, v23), ⟨hv24⟩, ⟨trivial⟩, ?_⟩
    refine And.intro ⟨rfl⟩ ?_
    refine And.intro ⟨rfl⟩ ?_
    refine And.intro ⟨rfl, hc18, (ec_len c58_len).trans (congrArg (· * 4) (show _ = _ from rfl)), hR17⟩ ?_
    obtain ⟨v25, hv26, H⟩ := call_st H
    refine ⟨(a0, a1, v10, v25), ⟨hv26⟩, ⟨trivial⟩, ?_⟩
    refine And.intro ⟨rfl⟩ ?_
    refine And.intro ⟨rfl⟩ ?_
    refine And.intro ⟨rfl, hc18, (ec_len c58_len).trans (congrArg (· * 4) (show _ = _ from rfl)), hR17⟩ ?_
    obtain ⟨v27, hv28, H⟩ := call_st H
    refine ⟨(a0, a1, v10, v27), ⟨hv28⟩, ⟨trivial⟩, ?_⟩
    refine And.intro ⟨rfl⟩ ?_
    refine And.intro ⟨rfl⟩ ?_
    refine And.intro ⟨rfl, hc18, (ec_len c58_len).trans (congrArg (· * 4) (show _ = _ from rfl)), hR17⟩ ?_
    obtain ⟨v29, hv30, H⟩ := call_st H
    refine ⟨(a0, a1, v10, v29), ⟨hv30⟩, ⟨trivial⟩, ?_⟩
    refine And.intro ⟨rfl⟩ ?_
    refine And.intro ⟨rfl⟩ ?_
    refine And.intro ⟨rfl, hc18, (ec_len c58_len).trans (congrArg (· * 4) (show _ = _ from rfl)), hR17⟩ ?_
    refine if_st H (fun h31 H => ?_) (fun h31 H => ?_)
    · refine if_st H (fun h32 H => ?_) (fun h32 H => ?_)
      · obtain ⟨v33, hv34, H⟩ := call_st H
        refine ⟨(v23.1, v25.1, v33), ⟨hv34⟩, ⟨trivial⟩, ?_⟩
        refine And.intro ⟨by first | rfl | (simp; done), by first | rfl | (simp [ei, eb, es, ec, c58]; done) | (simp only [ei, eb, es, ec, c58, List.map_append, List.nil_append, List.append_assoc]; rfl)⟩ ?_
        refine And.intro ⟨by first | rfl | (simp; done), by first | rfl | (simp [ei, eb, es, ec, c58]; done) | (simp only [ei, eb, es, ec, c58, List.map_append, List.nil_append, List.append_assoc]; rfl)⟩ ?_
        refine if_st H (fun h35 H => ?_) (fun h35 H => ?_)
        · refine if_st H (fun h36 H => ?_) (fun h36 H => ?_)
          · obtain ⟨v37, hv38, H⟩ := call_st H
            refine ⟨(v27.1, v29.1, v37), ⟨hv38⟩, ⟨trivial⟩, ?_⟩
            refine And.intro ⟨by first | rfl | (simp; done), by first | rfl | (simp [ei, eb, es, ec, c58]; done) | (simp only [ei, eb, es, ec, c58, List.map_append, List.nil_append, List.append_assoc]; rfl)⟩ ?_
            refine And.intro ⟨by first | rfl | (simp; done), by first | rfl | (simp [ei, eb, es, ec, c58]; done) | (simp only [ei, eb, es, ec, c58, List.map_append, List.nil_append, List.append_assoc]; rfl)⟩ ?_
            refine if_st H (fun h39 H => ?_) (fun h39 H => ?_)
            · refine if_st H (fun h40 H => ?_) (fun h40 H => ?_)
              · obtain ⟨v41, hv42, H⟩ := call_st H
                refine ⟨(a0, a1, v10, v41), ⟨hv42⟩, ⟨trivial⟩, ?_⟩
                refine And.intro ⟨rfl⟩ ?_
                refine And.intro ⟨rfl⟩ ?_
                refine And.intro ⟨rfl, hc18, (ec_len c58_len).trans (congrArg (· * 4) (show _ = _ from rfl)), hR17⟩ ?_
                obtain ⟨v43, hv44, H⟩ := call_st H
                refine ⟨(a0, a1, v10, v43), ⟨hv44⟩, ⟨trivial⟩, ?_⟩
                refine And.intro ⟨rfl⟩ ?_
                refine And.intro ⟨rfl⟩ ?_
                refine And.intro ⟨rfl, hc18, (ec_len c58_len).trans (congrArg (· * 4) (show _ = _ from rfl)), hR17⟩ ?_
                refine if_st H (fun h45 H => ?_) (fun h45 H => ?_)
                · obtain ⟨v46, hv47, H⟩ := call_st H
                  refine ⟨v46, ⟨hv47⟩, ⟨trivial⟩, ?_⟩
                  have hfin := fin_st H
                  repeat (refine And.intro (Ob.mk (by first | (rw [← hfin] <;> first | exact rfl | exact Iff.rfl | exact ⟨rfl, rfl⟩ | exact decide_eq_true_iff | (constructor <;> first | rfl | simp [ei, eb, es, ec, c58]) | simp [ei, eb, es, ec, c58]) | first | exact rfl | exact Iff.rfl | exact ⟨rfl, rfl⟩ | exact decide_eq_true_iff | (constructor <;> first | rfl | simp [ei, eb, es, ec, c58]) | simp [ei, eb, es, ec, c58])) ?_)
                  first | exact trivial | exact rfl
                · have hfin := fin_st H
                  repeat (refine And.intro (Ob.mk (by first | (rw [← hfin] <;> first | exact rfl | exact Iff.rfl | exact ⟨rfl, rfl⟩ | exact decide_eq_true_iff | (constructor <;> first | rfl | simp [ei, eb, es, ec, c58]) | simp [ei, eb, es, ec, c58]) | first | exact rfl | exact Iff.rfl | exact ⟨rfl, rfl⟩ | exact decide_eq_true_iff | (constructor <;> first | rfl | simp [ei, eb, es, ec, c58]) | simp [ei, eb, es, ec, c58])) ?_)
                  first | exact trivial | exact rfl
              · have hfin := fin_st H
                repeat (refine And.intro (Ob.mk (by first | (rw [← hfin] <;> first | exact rfl | exact Iff.rfl | exact ⟨rfl, rfl⟩ | exact decide_eq_true_iff | (constructor <;> first | rfl | simp [ei, eb, es, ec, c58]) | simp [ei, eb, es, ec, c58]) | first | exact rfl | exact Iff.rfl | exact ⟨rfl, rfl⟩ | exact decide_eq_true_iff | (constructor <;> first | rfl | simp [ei, eb, es, ec, c58]) | simp [ei, eb, es, ec, c58])) ?_)
                first | exact trivial | exact rfl
            · have hfin := fin_st H
              repeat (refine And.intro (Ob.mk (by first | (rw [← hfin] <;> first | exact rfl | exact Iff.rfl | exact ⟨rfl, rfl⟩ | exact decide_eq_true_iff | (constructor <;> first | rfl | simp [ei, eb, es, ec, c58]) | simp [ei, eb, es, ec, c58]) | first | exact rfl | exact Iff.rfl | exact ⟨rfl, rfl⟩ | exact decide_eq_true_iff | (constructor <;> first | rfl | simp [ei, eb, es, ec, c58]) | simp [ei, eb, es, ec, c58])) ?_)
              first | exact trivial | exact rfl
          · have hfin := fin_st H
            repeat (refine And.intro (Ob.mk (by first | (rw [← hfin] <;> first | exact rfl | exact Iff.rfl | exact ⟨rfl, rfl⟩ | exact decide_eq_true_iff | (constructor <;> first | rfl | simp [ei, eb, es, ec, c58]) | simp [ei, eb, es, ec, c58]) | first | exact rfl | exact Iff.rfl | exact ⟨rfl, rfl⟩ | exact decide_eq_true_iff | (constructor <;> first | rfl | simp [ei, eb, es, ec, c58]) | simp [ei, eb, es, ec, c58])) ?_)
            first | exact trivial | exact rfl
        · have hfin := fin_st H
          repeat (refine And.intro (Ob.mk (by first | (rw [← hfin] <;> first | exact rfl | exact Iff.rfl | exact ⟨rfl, rfl⟩ | exact decide_eq_true_iff | (constructor <;> first | rfl | simp [ei, eb, es, ec, c58]) | simp [ei, eb, es, ec, c58]) | first | exact rfl | exact Iff.rfl | exact ⟨rfl, rfl⟩ | exact decide_eq_true_iff | (constructor <;> first | rfl | simp [ei, eb, es, ec, c58]) | simp [ei, eb, es, ec, c58])) ?_)
          first | exact trivial | exact rfl
      · have hfin := fin_st H
        repeat (refine And.intro (Ob.mk (by first | (rw [← hfin] <;> first | exact rfl | exact Iff.rfl | exact ⟨rfl, rfl⟩ | exact decide_eq_true_iff | (constructor <;> first | rfl | simp [ei, eb, es, ec, c58]) | simp [ei, eb, es, ec, c58]) | first | exact rfl | exact Iff.rfl | exact ⟨rfl, rfl⟩ | exact decide_eq_true_iff | (constructor <;> first | rfl | simp [ei, eb, es, ec, c58]) | simp [ei, eb, es, ec, c58])) ?_)
        first | exact trivial | exact rfl
    · have hfin := fin_st H
      repeat (refine And.intro (Ob.mk (by first | (rw [← hfin] <;> first | exact rfl | exact Iff.rfl | exact ⟨rfl, rfl⟩ | exact decide_eq_true_iff | (constructor <;> first | rfl | simp [ei, eb, es, ec, c58]) | simp [ei, eb, es, ec, c58]) | first | exact rfl | exact Iff.rfl | exact ⟨rfl, rfl⟩ | exact decide_eq_true_iff | (constructor <;> first | rfl | simp [ei, eb, es, ec, c58]) | simp [ei, eb, es, ec, c58])) ?_)
      first | exact trivial | exact rfl

/-- placard/placardlaw16.LayoutHolds -/
noncomputable def g7 (a0 : Int) (a1 : Int) (a2 : List (Int × Int × Int × Int)) : Option (Bool) :=
  jn (α := _) (β := List (Int × Int × Int × Int)) (fun k58 =>
      if 65 < ((a2.length : Nat) : Int) then
        (
          ck (0 ≤ (0 : Int) ∧ (0 : Int) ≤ (65 : Int) ∧ (65 : Int) ≤ ((a2.length : Nat) : Int)) <|
          k58 ((a2.drop (0 : Int).toNat).take ((65 : Int).toNat - (0 : Int).toNat))
        )
      else
        k58 a2
  ) (fun v57 =>
    (g34 a0 a1 v57).bind fun v74 =>
    if ¬ v74 = 0 then
      (
        (g35 a0 a1 v57).bind fun v77 =>
        if ¬ v77 = 0 then
          (
            (g36).bind fun v80 =>
            some v80
          )
        else
          some false
      )
    else
      (
        (g37 a0 a1 v57).bind fun v82 =>
        (g38 a0 a1 v57).bind fun v84 =>
        if ¬ v82.2 = 0 then
          some false
        else
          (
            if ¬ v84.2 = 0 then
              some false
            else
              (
                if ¬ ((v82.1.length : Nat) : Int) = ((v57.length : Nat) : Int) then
                  some false
                else
                  (
                    if ¬ ((v84.1.length : Nat) : Int) = ((v57.length : Nat) : Int) then
                      some false
                    else
                      (
                        jn (α := _) (β := Int × Int × Bool) (fun k188 =>
                            (loopO (σ := Int × Int × Bool × Int) (ρ := (Unit) ⊕ (Int × Int × Bool)) (fun s189 =>
                                if s189.2.2.2 < ((v57.length : Nat) : Int) then
                                  (
                                    ck (0 ≤ s189.2.2.2 ∧ s189.2.2.2 < ((v57.length : Nat) : Int)) <|
                                    ck (0 ≤ s189.2.2.2 ∧ s189.2.2.2 < ((v84.1.length : Nat) : Int)) <|
                                    if ¬ ((v84.1.getD s189.2.2.2.toNat false) = true) then
                                      (
                                        ck (0 ≤ s189.2.2.2 ∧ s189.2.2.2 < ((v82.1.length : Nat) : Int)) <|
                                        if ¬ (v82.1.getD s189.2.2.2.toNat 0) = 0 then
                                          some (.out (.inl (())))
                                        else
                                          (
                                            ck (inR .i64 (s189.2.2.2 + 1)) <|
                                            some (.go (s189.1, s189.2.1, s189.2.2.1, s189.2.2.2 + 1))
                                          )
                                      )
                                    else
                                      (
                                        ck (0 ≤ s189.2.2.2 ∧ s189.2.2.2 < ((v82.1.length : Nat) : Int)) <|
                                        if (v82.1.getD s189.2.2.2.toNat 0) < ((v57.getD s189.2.2.2.toNat default).1) then
                                          some (.out (.inl (())))
                                        else
                                          (
                                            ck (0 ≤ s189.2.2.2 ∧ s189.2.2.2 < ((v82.1.length : Nat) : Int)) <|
                                            if ((v57.getD s189.2.2.2.toNat default).2.1) < (v82.1.getD s189.2.2.2.toNat 0) then
                                              some (.out (.inl (())))
                                            else
                                              (
                                                ck (inR .i64 (s189.2.1 + 1)) <|
                                                ck (0 ≤ s189.2.2.2 ∧ s189.2.2.2 < ((v82.1.length : Nat) : Int)) <|
                                                ck (inR .i64 (s189.1 + (v82.1.getD s189.2.2.2.toNat 0))) <|
                                                if s189.2.2.1 = true then
                                                  (
                                                    ck (inR .i64 (s189.2.2.2 + 1)) <|
                                                    some (.go (s189.1 + (v82.1.getD s189.2.2.2.toNat 0), s189.2.1 + 1, true, s189.2.2.2 + 1))
                                                  )
                                                else
                                                  (
                                                    if 0 < ((v57.getD s189.2.2.2.toNat default).2.2.1) then
                                                      (
                                                        ck (0 ≤ s189.2.2.2 ∧ s189.2.2.2 < ((v82.1.length : Nat) : Int)) <|
                                                        ck (inR .i64 (s189.2.2.2 + 1)) <|
                                                        some (.go (s189.1 + (v82.1.getD s189.2.2.2.toNat 0), s189.2.1 + 1, (decide ((v82.1.getD s189.2.2.2.toNat 0) < ((v57.getD s189.2.2.2.toNat default).2.1))), s189.2.2.2 + 1))
                                                      )
                                                    else
                                                      (
                                                        ck (inR .i64 (s189.2.2.2 + 1)) <|
                                                        some (.go (s189.1 + (v82.1.getD s189.2.2.2.toNat 0), s189.2.1 + 1, false, s189.2.2.2 + 1))
                                                      )
                                                  )
                                              )
                                          )
                                      )
                                  )
                                else
                                  some (.out (.inr ((s189.1, s189.2.1, s189.2.2.1))))
                              ) (0, 0, false, 0)).bind fun o229 =>
                            sm o229 (fun o250 =>
                                some false
                              ) (fun o251 =>
                                k188 (o251.1, o251.2.1, o251.2.2)
                              )
                        ) (fun v187 =>
                          jn (α := _) (β := Int) (fun k262 =>
                              if 1 < v187.2.1 then
                                (
                                  ck (inR .i64 (v187.2.1 - 1)) <|
                                  ck (inR .i64 (a1 * (v187.2.1 - 1))) <|
                                  ck (inR .i64 (v187.1 + (a1 * (v187.2.1 - 1)))) <|
                                  k262 (v187.1 + (a1 * (v187.2.1 - 1)))
                                )
                              else
                                k262 v187.1
                          ) (fun v261 =>
                            if v261 ≤ a0 then
                              (
                                if ¬ (v187.2.2 = true) then
                                  (
                                    (g36).bind fun v269 =>
                                    some v269
                                  )
                                else
                                  (
                                    if v261 = a0 then
                                      (
                                        (g36).bind fun v272 =>
                                        some v272
                                      )
                                    else
                                      some false
                                  )
                              )
                            else
                              some false
                          )
                        )
                      )
                  )
              )
          )
      )
  )
noncomputable def k7 : Eng.CS := { f := 7, calm := true, more := 0, ι := Int × Int × (List (Int × Int × Int × Int)) × Bool, ok := fun i => g7 i.1 i.2.1 i.2.2.1 = some i.2.2.2, rds := fun _ => [], args := fun i => [.w (.v (.int .i64 (i.1))), .w (.v (.int .i64 (i.2.1))), .sl 4 i.2.2.1.length (ec c58 i.2.2.1)], res := fun i => bS i.2.2.2 }
set_option maxRecDepth 8000 in
set_option maxHeartbeats 4000000 in
theorem k7_ok : CalmOk Try.prog k7 := by
  refine R.calmspec Try.func7 nm7 rfl ?_
  rintro ⟨a0, a1, a2, r⟩ hok q _ args hargs
  match args, hargs with
  | [_, _, _], hargs =>
  obtain ⟨rfl, rfl, ⟨A2, cp2, rfl, hc2, _, hR2⟩, _⟩ := hargs
  refine ⟨envC [k34, k35, k36, k37, k38] false [(7, 2), (7, 22), (7, 24)], 6, envC_ok (css_cons ⟨fun _ => k34_ok, fun h => (by cases h)⟩ (css_cons ⟨fun _ => k35_ok, fun h => (by cases h)⟩ (css_cons ⟨fun _ => k36_ok, fun h => (by cases h)⟩ (css_cons ⟨fun h => (by cases h), fun _ => k37_ok⟩ (css_cons ⟨fun h => (by cases h), fun _ => k38_ok⟩ (css_nil)))))), rfl, (by intro x hx; simp only [List.mem_cons, List.not_mem_nil, or_false] at hx; rcases hx with rfl | rfl | rfl <;> rfl), ?_⟩
  have H : Gives (g7 a0 a1 a2) (fun a => a = r) := ⟨r, hok, rfl⟩
  unfold g7 at H
  clear hok
  refine R.cut_famX H 12 [0, 1] [] (fun (v57 : List (Int × Int × Int × Int)) (g : (Option Addr × Nat)) => [(2, .v (.slice ((g.1)) (v57.length) ((g.2))))]) (fun (v57 : List (Int × Int × Int × Int)) (g : (Option Addr × Nat)) => []) [] 0 (fun q (v57 : List (Int × Int × Int × Int)) (g : (Option Addr × Nat)) => Reads q g.1 (ec c58 v57) ∧ v57.length ≤ g.2) (fun H => ?_)
  refine And.intro ?_ ?_
  · refine if_st H (fun h59 H => ?_) (fun h59 H => ?_)
    · refine ob_sl hc2 H fun h60 H => ?_
      have hs61 := sl_ec c58_len hR2 rfl hc2 h60
      refine ⟨(((a2.drop (0 : Int).toNat).take ((65 : Int).toNat - (0 : Int).toNat)), (if cp2 = (0 : Int).toNat then A2 else A2.map (·.add ((0 : Int).toNat * 4)), cp2 - (0 : Int).toNat)), ⟨H, hs61.1, (Nat.le_trans (Nat.le_of_eq (show _ = _ from hs61.2.1)) hs61.2.2)⟩, ⟨rfl⟩, ?_⟩
      repeat (refine And.intro (Ob.mk (by first | exact congrArg (fun m => Value.slice _ m _) (show _ = _ from hs61.2.1) | first | exact rfl | exact Iff.rfl | exact ⟨rfl, rfl⟩ | exact decide_eq_true_iff | (constructor <;> first | rfl | simp [ei, eb, es, ec, c58]) | simp [ei, eb, es, ec, c58])) ?_)
      first | exact trivial | exact rfl
    · refine ⟨(a2, (A2, cp2)), ⟨H, hR2, hc2⟩, ⟨rfl⟩, ?_⟩
      repeat (refine And.intro (Ob.mk (by first | exact rfl | exact Iff.rfl | exact ⟨rfl, rfl⟩ | exact decide_eq_true_iff | (constructor <;> first | rfl | simp [ei, eb, es, ec, c58]) | simp [ei, eb, es, ec, c58])) ?_)
      first | exact trivial | exact rfl
  · rintro ⟨v57, ⟨A62, c63⟩⟩ ⟨H, hR64, hc65⟩
    dsimp only at H hR64 hc65
    obtain ⟨v74, hv75, H⟩ := call_st H
    refine ⟨(a0, a1, v57, v74), ⟨hv75⟩, ⟨trivial⟩, ?_⟩
    refine And.intro ⟨rfl⟩ ?_
    refine And.intro ⟨rfl⟩ ?_
    refine And.intro ⟨rfl, hc65, (ec_len c58_len).trans (congrArg (· * 4) (show _ = _ from rfl)), hR64⟩ ?_
    refine if_st H (fun h76 H => ?_) (fun h76 H => ?_)
    · obtain ⟨v77, hv78, H⟩ := call_st H
      refine ⟨(a0, a1, v57, v77), ⟨hv78⟩, ⟨trivial⟩, ?_⟩
      refine And.intro ⟨rfl⟩ ?_
      refine And.intro ⟨rfl⟩ ?_
      refine And.intro ⟨rfl, hc65, (ec_len c58_len).trans (congrArg (· * 4) (show _ = _ from rfl)), hR64⟩ ?_
      refine if_st H (fun h79 H => ?_) (fun h79 H => ?_)
      · obtain ⟨v80, hv81, H⟩ := call_st H
        refine ⟨v80, ⟨hv81⟩, ⟨trivial⟩, ?_⟩
        have hfin := fin_st H
        repeat (refine And.intro (Ob.mk (by first | (rw [← hfin] <;> first | exact rfl | exact Iff.rfl | exact ⟨rfl, rfl⟩ | exact decide_eq_true_iff | (constructor <;> first | rfl | simp [ei, eb, es, ec, c58]) | simp [ei, eb, es, ec, c58]) | first | exact rfl | exact Iff.rfl | exact ⟨rfl, rfl⟩ | exact decide_eq_true_iff | (constructor <;> first | rfl | simp [ei, eb, es, ec, c58]) | simp [ei, eb, es, ec, c58])) ?_)
        first | exact trivial | exact rfl
      · have hfin := fin_st H
        repeat (refine And.intro (Ob.mk (by first | (rw [← hfin] <;> first | exact rfl | exact Iff.rfl | exact ⟨rfl, rfl⟩ | exact decide_eq_true_iff | (constructor <;> first | rfl | simp [ei, eb, es, ec, c58]) | simp [ei, eb, es, ec, c58]) | first | exact rfl | exact Iff.rfl | exact ⟨rfl, rfl⟩ | exact decide_eq_true_iff | (constructor <;> first | rfl | simp [ei, eb, es, ec, c58]) | simp [ei, eb, es, ec, c58])) ?_)
        first | exact trivial | exact rfl
    · obtain ⟨v82, hv83, H⟩ := call_st H
      refine ⟨(a0, a1, v57, v82), ⟨hv83⟩, ⟨trivial⟩, ?_⟩
      refine And.intro ⟨rfl⟩ ?_
      refine And.intro ⟨rfl⟩ ?_
      refine And.intro ⟨rfl, hc65, (ec_len c58_len).trans (congrArg (· * 4) (show _ = _ from rfl)), hR64⟩ ?_
      obtain ⟨v84, hv85, H⟩ := call_st H
      refine ⟨(a0, a1, v57, v84), ⟨hv85⟩, ⟨trivial⟩, ?_⟩
      refine And.intro ⟨rfl⟩ ?_
      refine And.intro ⟨rfl⟩ ?_
      refine And.intro ⟨rfl, hc65, (ec_len c58_len).trans (congrArg (· * 4) (show _ = _ from rfl)), hR64⟩ ?_
      refine if_st H (fun h93 H => ?_) (fun h93 H => ?_)
      · have hfin := fin_st H
        repeat (refine And.intro (Ob.mk (by first | (rw [← hfin] <;> first | exact rfl | exact Iff.rfl | exact ⟨rfl, rfl⟩ | exact decide_eq_true_iff | (constructor <;> first | rfl | simp [ei, eb, es, ec, c58]) | simp [ei, eb, es, ec, c58]) | first | exact rfl | exact Iff.rfl | exact ⟨rfl, rfl⟩ | exact decide_eq_true_iff | (constructor <;> first | rfl | simp [ei, eb, es, ec, c58]) | simp [ei, eb, es, ec, c58])) ?_)
        first | exact trivial | exact rfl
      · refine if_st H (fun h94 H => ?_) (fun h94 H => ?_)
        · have hfin := fin_st H
          repeat (refine And.intro (Ob.mk (by first | (rw [← hfin] <;> first | exact rfl | exact Iff.rfl | exact ⟨rfl, rfl⟩ | exact decide_eq_true_iff | (constructor <;> first | rfl | simp [ei, eb, es, ec, c58]) | simp [ei, eb, es, ec, c58]) | first | exact rfl | exact Iff.rfl | exact ⟨rfl, rfl⟩ | exact decide_eq_true_iff | (constructor <;> first | rfl | simp [ei, eb, es, ec, c58]) | simp [ei, eb, es, ec, c58])) ?_)
          first | exact trivial | exact rfl
        · refine if_st H (fun h95 H => ?_) (fun h95 H => ?_)
          · have hfin := fin_st H
            repeat (refine And.intro (Ob.mk (by first | (rw [← hfin] <;> first | exact rfl | exact Iff.rfl | exact ⟨rfl, rfl⟩ | exact decide_eq_true_iff | (constructor <;> first | rfl | simp [ei, eb, es, ec, c58]) | simp [ei, eb, es, ec, c58]) | first | exact rfl | exact Iff.rfl | exact ⟨rfl, rfl⟩ | exact decide_eq_true_iff | (constructor <;> first | rfl | simp [ei, eb, es, ec, c58]) | simp [ei, eb, es, ec, c58])) ?_)
            first | exact trivial | exact rfl
          · refine if_st H (fun h96 H => ?_) (fun h96 H => ?_)
            · have hfin := fin_st H
              repeat (refine And.intro (Ob.mk (by first | (rw [← hfin] <;> first | exact rfl | exact Iff.rfl | exact ⟨rfl, rfl⟩ | exact decide_eq_true_iff | (constructor <;> first | rfl | simp [ei, eb, es, ec, c58]) | simp [ei, eb, es, ec, c58]) | first | exact rfl | exact Iff.rfl | exact ⟨rfl, rfl⟩ | exact decide_eq_true_iff | (constructor <;> first | rfl | simp [ei, eb, es, ec, c58]) | simp [ei, eb, es, ec, c58])) ?_)
              first | exact trivial | exact rfl
            · refine R.cut_fam H 67 [0, 1] [] (fun v187 => [(11, .v (.int .i64 (v187.1))), (12, .v (.int .i64 (v187.2.1))), (13, bS v187.2.2)]) (fun v187 => []) [(26, .arr 3 1 (v82.1.length) (ei .i64 (v82.1))), (36, .arr 4 1 (v84.1.length) (eb (v84.1)))] 0 (fun H => ?_)
              refine And.intro ?_ ?_
              · refine R.loop_fam (bind_st H) [0, 1, 2, 7, 9] [] (fun _ s189 => [(11, .v (.int .i64 (s189.1))), (12, .v (.int .i64 (s189.2.1))), (13, bS s189.2.2.1), (14, .v (.int .i64 (s189.2.2.2)))]) (fun _ s189 => []) 0 (fun n252 H => ?_)
                refine ⟨(n252, _), ⟨H⟩, ⟨trivial⟩, ?_⟩
                repeat (refine And.intro (Ob.mk (by first | exact rfl | exact Iff.rfl | exact ⟨rfl, rfl⟩ | exact decide_eq_true_iff | (constructor <;> first | rfl | simp [ei, eb, es, ec, c58]) | simp [ei, eb, es, ec, c58])) ?_)
                rintro ⟨m0, s189⟩ H _
                obtain ⟨m190, hm0, H⟩ := IG_succ H
                dsimp only at hm0
                subst hm0
                try dsimp only at H
                refine if_st H (fun h230 H => ?_) (fun h230 H => ?_)
                · refine ob_ix hR64 (fun h => ec0 c58_len (by decide) h) H fun h231 H => ?_
                  refine ld_int (e := (v57.getD s189.2.2.2.toNat default).1) (rd_get hR64 ((ec_get (i := s189.2.2.2.toNat) (o := 0) c58_len (tn h231) (by decide)).trans rfl)) ?_
                  refine ld_int (e := (v57.getD s189.2.2.2.toNat default).2.1) (rd_get hR64 ((ec_get (i := s189.2.2.2.toNat) (o := 1) c58_len (tn h231) (by decide)).trans rfl)) ?_
                  refine ld_int (e := (v57.getD s189.2.2.2.toNat default).2.2.1) (rd_get hR64 ((ec_get (i := s189.2.2.2.toNat) (o := 2) c58_len (tn h231) (by decide)).trans rfl)) ?_
                  refine ld_int (e := (v57.getD s189.2.2.2.toNat default).2.2.2) (rd_get hR64 ((ec_get (i := s189.2.2.2.toNat) (o := 3) c58_len (tn h231) (by decide)).trans rfl)) ?_
                  refine ob_ck H fun h232 H => ?_
                  refine ld_bool (e := v84.1.getD s189.2.2.2.toNat false) (own_get (ys := eb v84.1) (by first | rfl | simp [ei, eb, es, ec, c58]) (eb_get (l := v84.1) (by first | exact tn h232 | (have := tn h232; simp at this ⊢; omega) | (have := tn h232; simp; omega)))) ?_
                  refine if_st H (fun h233 H => ?_) (fun h233 H => ?_)
                  · refine ob_ck H fun h234 H => ?_
                    refine ld_int (e := v82.1.getD s189.2.2.2.toNat 0) (own_get (ys := ei .i64 v82.1) (by first | rfl | simp [ei, eb, es, ec, c58]) (ei_get (l := v82.1) (by first | exact tn h234 | (have := tn h234; simp at this ⊢; omega) | (have := tn h234; simp; omega)))) ?_
                    refine if_st H (fun h235 H => ?_) (fun h235 H => ?_)
                    · replace H := some_st H
                      dsimp only [stp, sm] at H
                      have hfin := fin_st H
                      repeat (refine And.intro (Ob.mk (by first | (rw [← hfin] <;> first | exact rfl | exact Iff.rfl | exact ⟨rfl, rfl⟩ | exact decide_eq_true_iff | (constructor <;> first | rfl | simp [ei, eb, es, ec, c58]) | simp [ei, eb, es, ec, c58]) | first | exact rfl | exact Iff.rfl | exact ⟨rfl, rfl⟩ | exact decide_eq_true_iff | (constructor <;> first | rfl | simp [ei, eb, es, ec, c58]) | simp [ei, eb, es, ec, c58])) ?_)
                      first | exact trivial | exact rfl
                    · refine ob_ck H fun h236 H => ?_
                      replace H := some_st H
                      refine ⟨(m190, (s189.1, s189.2.1, s189.2.2.1, s189.2.2.2 + 1)), ⟨H, Nat.lt_succ_self _⟩, ⟨trivial⟩, ⟨rfl⟩, ?_⟩
                      repeat (refine And.intro (Ob.mk (by first | exact rfl | exact Iff.rfl | exact ⟨rfl, rfl⟩ | exact decide_eq_true_iff | (constructor <;> first | rfl | simp [ei, eb, es, ec, c58]) | simp [ei, eb, es, ec, c58])) ?_)
                      first | exact trivial | exact rfl
                  · refine And.intro ⟨by kernel_rfl⟩ ?_
                    refine ob_ck H fun h237 H => ?_
                    refine ld_int (e := v82.1.getD s189.2.2.2.toNat 0) (own_get (ys := ei .i64 v82.1) (by first | rfl | simp [ei, eb, es, ec, c58]) (ei_get (l := v82.1) (by first | exact tn h237 | (have := tn h237; simp at this ⊢; omega) | (have := tn h237; simp; omega)))) ?_
                    refine if_st H (fun h238 H => ?_) (fun h238 H => ?_)
                    · replace H := some_st H
                      dsimp only [stp, sm] at H
                      have hfin := fin_st H
                      repeat (refine And.intro (Ob.mk (by first | (rw [← hfin] <;> first | exact rfl | exact Iff.rfl | exact ⟨rfl, rfl⟩ | exact decide_eq_true_iff | (constructor <;> first | rfl | simp [ei, eb, es, ec, c58]) | simp [ei, eb, es, ec, c58]) | first | exact rfl | exact Iff.rfl | exact ⟨rfl, rfl⟩ | exact decide_eq_true_iff | (constructor <;> first | rfl | simp [ei, eb, es, ec, c58]) | simp [ei, eb, es, ec, c58])) ?_)
                      first | exact trivial | exact rfl
                    · refine ob_ck H fun h239 H => ?_
                      refine ld_int (e := v82.1.getD s189.2.2.2.toNat 0) (own_get (ys := ei .i64 v82.1) (by first | rfl | simp [ei, eb, es, ec, c58]) (ei_get (l := v82.1) (by first | exact tn h239 | (have := tn h239; simp at this ⊢; omega) | (have := tn h239; simp; omega)))) ?_
                      refine if_st H (fun h240 H => ?_) (fun h240 H => ?_)
                      · replace H := some_st H
                        dsimp only [stp, sm] at H
                        have hfin := fin_st H
                        repeat (refine And.intro (Ob.mk (by first | (rw [← hfin] <;> first | exact rfl | exact Iff.rfl | exact ⟨rfl, rfl⟩ | exact decide_eq_true_iff | (constructor <;> first | rfl | simp [ei, eb, es, ec, c58]) | simp [ei, eb, es, ec, c58]) | first | exact rfl | exact Iff.rfl | exact ⟨rfl, rfl⟩ | exact decide_eq_true_iff | (constructor <;> first | rfl | simp [ei, eb, es, ec, c58]) | simp [ei, eb, es, ec, c58])) ?_)
                        first | exact trivial | exact rfl
                      · refine ob_ck H fun h241 H => ?_
                        refine ob_ck H fun h242 H => ?_
                        refine ld_int (e := v82.1.getD s189.2.2.2.toNat 0) (own_get (ys := ei .i64 v82.1) (by first | rfl | simp [ei, eb, es, ec, c58]) (ei_get (l := v82.1) (by first | exact tn h242 | (have := tn h242; simp at this ⊢; omega) | (have := tn h242; simp; omega)))) ?_
                        refine ob_ck H fun h243 H => ?_
                        refine And.intro ⟨by kernel_rfl⟩ ?_
                        refine if_st H (fun h244 H => ?_) (fun h244 H => ?_)
                        · refine ob_ck H fun h245 H => ?_
                          replace H := some_st H
                          refine ⟨(m190, (s189.1 + (v82.1.getD s189.2.2.2.toNat 0), s189.2.1 + 1, true, s189.2.2.2 + 1)), ⟨H, Nat.lt_succ_self _⟩, ⟨trivial⟩, ⟨rfl⟩, ?_⟩
                          repeat (refine And.intro (Ob.mk (by first | exact rfl | exact Iff.rfl | exact ⟨rfl, rfl⟩ | exact decide_eq_true_iff | (constructor <;> first | rfl | simp [ei, eb, es, ec, c58]) | simp [ei, eb, es, ec, c58])) ?_)
                          first | exact trivial | exact rfl
                        · refine if_st H (fun h246 H => ?_) (fun h246 H => ?_)
                          · refine ob_ck H fun h247 H => ?_
                            refine ld_int (e := v82.1.getD s189.2.2.2.toNat 0) (own_get (ys := ei .i64 v82.1) (by first | rfl | simp [ei, eb, es, ec, c58]) (ei_get (l := v82.1) (by first | exact tn h247 | (have := tn h247; simp at this ⊢; omega) | (have := tn h247; simp; omega)))) ?_
                            refine ob_ck H fun h248 H => ?_
                            replace H := some_st H
                            refine ⟨(m190, (s189.1 + (v82.1.getD s189.2.2.2.toNat 0), s189.2.1 + 1, (decide ((v82.1.getD s189.2.2.2.toNat 0) < ((v57.getD s189.2.2.2.toNat default).2.1))), s189.2.2.2 + 1)), ⟨H, Nat.lt_succ_self _⟩, ⟨trivial⟩, ⟨rfl⟩, ?_⟩
                            repeat (refine And.intro (Ob.mk (by first | exact rfl | exact Iff.rfl | exact ⟨rfl, rfl⟩ | exact decide_eq_true_iff | (constructor <;> first | rfl | simp [ei, eb, es, ec, c58]) | simp [ei, eb, es, ec, c58])) ?_)
                            first | exact trivial | exact rfl
                          · refine ob_ck H fun h249 H => ?_
                            replace H := some_st H
                            refine ⟨(m190, (s189.1 + (v82.1.getD s189.2.2.2.toNat 0), s189.2.1 + 1, false, s189.2.2.2 + 1)), ⟨H, Nat.lt_succ_self _⟩, ⟨trivial⟩, ⟨rfl⟩, ?_⟩
                            repeat (refine And.intro (Ob.mk (by first | exact rfl | exact Iff.rfl | exact ⟨rfl, rfl⟩ | exact decide_eq_true_iff | (constructor <;> first | rfl | simp [ei, eb, es, ec, c58]) | simp [ei, eb, es, ec, c58])) ?_)
                            first | exact trivial | exact rfl
                · replace H := some_st H
                  dsimp only [stp, sm] at H
                  refine ⟨(s189.1, s189.2.1, s189.2.2.1), ⟨H⟩, ⟨rfl⟩, ?_⟩
                  repeat (refine And.intro (Ob.mk (by first | exact rfl | exact Iff.rfl | exact ⟨rfl, rfl⟩ | exact decide_eq_true_iff | (constructor <;> first | rfl | simp [ei, eb, es, ec, c58]) | simp [ei, eb, es, ec, c58])) ?_)
                  first | exact trivial | exact rfl
              · intro v187 H
                refine R.cut_fam H 77 [0, 13] [] (fun v261 => [(11, .v (.int .i64 (v261)))]) (fun v261 => []) [(26, .arr 3 1 (v82.1.length) (ei .i64 (v82.1))), (36, .arr 4 1 (v84.1.length) (eb (v84.1)))] 0 (fun H => ?_)
                refine And.intro ?_ ?_
                · refine if_st H (fun h263 H => ?_) (fun h263 H => ?_)
                  · refine ob_ck H fun h264 H => ?_
                    refine ob_ck H fun h265 H => ?_
                    refine ob_ck H fun h266 H => ?_
                    refine ⟨v187.1 + (a1 * (v187.2.1 - 1)), ⟨H⟩, ⟨rfl⟩, ?_⟩
                    repeat (refine And.intro (Ob.mk (by first | exact rfl | exact Iff.rfl | exact ⟨rfl, rfl⟩ | exact decide_eq_true_iff | (constructor <;> first | rfl | simp [ei, eb, es, ec, c58]) | simp [ei, eb, es, ec, c58])) ?_)
                    first | exact trivial | exact rfl
                  · refine ⟨v187.1, ⟨H⟩, ⟨rfl⟩, ?_⟩
                    repeat (refine And.intro (Ob.mk (by first | exact rfl | exact Iff.rfl | exact ⟨rfl, rfl⟩ | exact decide_eq_true_iff | (constructor <;> first | rfl | simp [ei, eb, es, ec, c58]) | simp [ei, eb, es, ec, c58])) ?_)
                    first | exact trivial | exact rfl
                · intro v261 H
                  refine if_st H (fun h267 H => ?_) (fun h267 H => ?_)
                  · refine if_st H (fun h268 H => ?_) (fun h268 H => ?_)
                    · obtain ⟨v269, hv270, H⟩ := call_st H
                      refine ⟨v269, ⟨hv270⟩, ⟨trivial⟩, ?_⟩
                      have hfin := fin_st H
                      repeat (refine And.intro (Ob.mk (by first | (rw [← hfin] <;> first | exact rfl | exact Iff.rfl | exact ⟨rfl, rfl⟩ | exact decide_eq_true_iff | (constructor <;> first | rfl | simp [ei, eb, es, ec, c58]) | simp [ei, eb, es, ec, c58]) | first | exact rfl | exact Iff.rfl | exact ⟨rfl, rfl⟩ | exact decide_eq_true_iff | (constructor <;> first | rfl | simp [ei, eb, es, ec, c58]) | simp [ei, eb, es, ec, c58])) ?_)
                      first | exact trivial | exact rfl
                    · refine if_st H (fun h271 H => ?_) (fun h271 H => ?_)
                      · obtain ⟨v272, hv273, H⟩ := call_st H
                        refine ⟨v272, ⟨hv273⟩, ⟨trivial⟩, ?_⟩
                        have hfin := fin_st H
                        repeat (refine And.intro (Ob.mk (by first | (rw [← hfin] <;> first | exact rfl | exact Iff.rfl | exact ⟨rfl, rfl⟩ | exact decide_eq_true_iff | (constructor <;> first | rfl | simp [ei, eb, es, ec, c58]) | simp [ei, eb, es, ec, c58]) | first | exact rfl | exact Iff.rfl | exact ⟨rfl, rfl⟩ | exact decide_eq_true_iff | (constructor <;> first | rfl | simp [ei, eb, es, ec, c58]) | simp [ei, eb, es, ec, c58])) ?_)
                        first | exact trivial | exact rfl
                      · have hfin := fin_st H
                        repeat (refine And.intro (Ob.mk (by first | (rw [← hfin] <;> first | exact rfl | exact Iff.rfl | exact ⟨rfl, rfl⟩ | exact decide_eq_true_iff | (constructor <;> first | rfl | simp [ei, eb, es, ec, c58]) | simp [ei, eb, es, ec, c58]) | first | exact rfl | exact Iff.rfl | exact ⟨rfl, rfl⟩ | exact decide_eq_true_iff | (constructor <;> first | rfl | simp [ei, eb, es, ec, c58]) | simp [ei, eb, es, ec, c58])) ?_)
                        first | exact trivial | exact rfl
                  · have hfin := fin_st H
                    repeat (refine And.intro (Ob.mk (by first | (rw [← hfin] <;> first | exact rfl | exact Iff.rfl | exact ⟨rfl, rfl⟩ | exact decide_eq_true_iff | (constructor <;> first | rfl | simp [ei, eb, es, ec, c58]) | simp [ei, eb, es, ec, c58]) | first | exact rfl | exact Iff.rfl | exact ⟨rfl, rfl⟩ | exact decide_eq_true_iff | (constructor <;> first | rfl | simp [ei, eb, es, ec, c58]) | simp [ei, eb, es, ec, c58])) ?_)
                    first | exact trivial | exact rfl

/-- placard/placardlaw16.LayoutGrows -/
noncomputable def g8 (a0 : Int) (a1 : Int) (a2 : List (Int × Int × Int × Int)) : Option (Bool) :=
  jn (α := _) (β := List (Int × Int × Int × Int)) (fun k284 =>
      if 65 < ((a2.length : Nat) : Int) then
        (
          ck (0 ≤ (0 : Int) ∧ (0 : Int) ≤ (65 : Int) ∧ (65 : Int) ≤ ((a2.length : Nat) : Int)) <|
          k284 ((a2.drop (0 : Int).toNat).take ((65 : Int).toNat - (0 : Int).toNat))
        )
      else
        k284 a2
  ) (fun v283 =>
    if 500 ≤ a0 then
      (
        (g36).bind fun v304 =>
        some v304
      )
    else
      (
        (g34 a0 a1 v283).bind fun v306 =>
        if ¬ v306 = 0 then
          (
            (g36).bind fun v309 =>
            some v309
          )
        else
          (
            (g38 a0 a1 v283).bind fun v311 =>
            ck (inR .i64 (a0 + 1)) <|
            (g38 (a0 + 1) a1 v283).bind fun v314 =>
            (g37 a0 a1 v283).bind fun v316 =>
            ck (inR .i64 (a0 + 1)) <|
            (g37 (a0 + 1) a1 v283).bind fun v319 =>
            if ¬ v311.2 = 0 then
              some false
            else
              (
                if ¬ v314.2 = 0 then
                  some false
                else
                  (
                    if ¬ v316.2 = 0 then
                      some false
                    else
                      (
                        if ¬ v319.2 = 0 then
                          some false
                        else
                          (
                            if ¬ ((v311.1.length : Nat) : Int) = ((v283.length : Nat) : Int) then
                              some false
                            else
                              (
                                if ¬ ((v314.1.length : Nat) : Int) = ((v311.1.length : Nat) : Int) then
                                  some false
                                else
                                  (
                                    if ¬ ((v316.1.length : Nat) : Int) = ((v311.1.length : Nat) : Int) then
                                      some false
                                    else
                                      (
                                        if ¬ ((v319.1.length : Nat) : Int) = ((v311.1.length : Nat) : Int) then
                                          some false
                                        else
                                          (
                                            jn (α := _) (β := Int) (fun k496 =>
                                                (loopO (σ := Int × Int) (ρ := (Unit) ⊕ (Int)) (fun s497 =>
                                                    if s497.2 < ((v311.1.length : Nat) : Int) then
                                                      (
                                                        jn (α := _) (β := Unit) (fun k570 =>
                                                            ck (0 ≤ s497.2 ∧ s497.2 < ((v311.1.length : Nat) : Int)) <|
                                                            if (v311.1.getD s497.2.toNat false) = true then
                                                              (
                                                                ck (0 ≤ s497.2 ∧ s497.2 < ((v314.1.length : Nat) : Int)) <|
                                                                if ¬ ((v314.1.getD s497.2.toNat false) = true) then
                                                                  some (.out (.inl (())))
                                                                else
                                                                  k570 ()
                                                              )
                                                            else
                                                              k570 ()
                                                        ) (fun v569 =>
                                                          (g39 v311.1 v314.1).bind fun v575 =>
                                                          if v575 = true then
                                                            (
                                                              ck (0 ≤ s497.2 ∧ s497.2 < ((v319.1.length : Nat) : Int)) <|
                                                              ck (0 ≤ s497.2 ∧ s497.2 < ((v316.1.length : Nat) : Int)) <|
                                                              if ¬ (v319.1.getD s497.2.toNat 0) = (v316.1.getD s497.2.toNat 0) then
                                                                (
                                                                  ck (0 ≤ s497.2 ∧ s497.2 < ((v319.1.length : Nat) : Int)) <|
                                                                  ck (0 ≤ s497.2 ∧ s497.2 < ((v316.1.length : Nat) : Int)) <|
                                                                  ck (inR .i64 ((v316.1.getD s497.2.toNat 0) + 1)) <|
                                                                  if ¬ (v319.1.getD s497.2.toNat 0) = ((v316.1.getD s497.2.toNat 0) + 1) then
                                                                    some (.out (.inl (())))
                                                                  else
                                                                    (
                                                                      ck (0 ≤ s497.2 ∧ s497.2 < ((v319.1.length : Nat) : Int)) <|
                                                                      ck (inR .i64 (s497.1 + (v319.1.getD s497.2.toNat 0))) <|
                                                                      ck (0 ≤ s497.2 ∧ s497.2 < ((v316.1.length : Nat) : Int)) <|
                                                                      ck (inR .i64 ((s497.1 + (v319.1.getD s497.2.toNat 0)) - (v316.1.getD s497.2.toNat 0))) <|
                                                                      ck (inR .i64 (s497.2 + 1)) <|
                                                                      some (.go ((s497.1 + (v319.1.getD s497.2.toNat 0)) - (v316.1.getD s497.2.toNat 0), s497.2 + 1))
                                                                    )
                                                                )
                                                              else
                                                                (
                                                                  ck (0 ≤ s497.2 ∧ s497.2 < ((v319.1.length : Nat) : Int)) <|
                                                                  ck (inR .i64 (s497.1 + (v319.1.getD s497.2.toNat 0))) <|
                                                                  ck (0 ≤ s497.2 ∧ s497.2 < ((v316.1.length : Nat) : Int)) <|
                                                                  ck (inR .i64 ((s497.1 + (v319.1.getD s497.2.toNat 0)) - (v316.1.getD s497.2.toNat 0))) <|
                                                                  ck (inR .i64 (s497.2 + 1)) <|
                                                                  some (.go ((s497.1 + (v319.1.getD s497.2.toNat 0)) - (v316.1.getD s497.2.toNat 0), s497.2 + 1))
                                                                )
                                                            )
                                                          else
                                                            (
                                                              ck (inR .i64 (s497.2 + 1)) <|
                                                              some (.go (s497.1, s497.2 + 1))
                                                            )
                                                        )
                                                      )
                                                    else
                                                      some (.out (.inr (s497.1)))
                                                  ) (0, 0)).bind fun o563 =>
                                                sm o563 (fun o596 =>
                                                    some false
                                                  ) (fun o597 =>
                                                    k496 o597
                                                  )
                                            ) (fun v495 =>
                                              if v495 ≤ 1 then
                                                (
                                                  (g36).bind fun v600 =>
                                                  some v600
                                                )
                                              else
                                                some false
                                            )
                                          )
                                      )
                                  )
                              )
                          )
                      )
                  )
              )
          )
      )
  )
noncomputable def k8 : Eng.CS := { f := 8, calm := true, more := 0, ι := Int × Int × (List (Int × Int × Int × Int)) × Bool, ok := fun i => g8 i.1 i.2.1 i.2.2.1 = some i.2.2.2, rds := fun _ => [], args := fun i => [.w (.v (.int .i64 (i.1))), .w (.v (.int .i64 (i.2.1))), .sl 4 i.2.2.1.length (ec c58 i.2.2.1)], res := fun i => bS i.2.2.2 }
set_option maxRecDepth 8000 in
set_option maxHeartbeats 4000000 in
theorem k8_ok : CalmOk Try.prog k8 := by
  refine R.calmspec Try.func8 nm8 rfl ?_
  rintro ⟨a0, a1, a2, r⟩ hok q _ args hargs
  match args, hargs with
  | [_, _, _], hargs =>
  obtain ⟨rfl, rfl, ⟨A2, cp2, rfl, hc2, _, hR2⟩, _⟩ := hargs
  refine ⟨envC [k34, k36, k37, k38, k39] false [(8, 2), (8, 16), (8, 20)], 6, envC_ok (css_cons ⟨fun _ => k34_ok, fun h => (by cases h)⟩ (css_cons ⟨fun _ => k36_ok, fun h => (by cases h)⟩ (css_cons ⟨fun h => (by cases h), fun _ => k37_ok⟩ (css_cons ⟨fun h => (by cases h), fun _ => k38_ok⟩ (css_cons ⟨fun _ => k39_ok, fun h => (by cases h)⟩ (css_nil)))))), rfl, (by intro x hx; simp only [List.mem_cons, List.not_mem_nil, or_false] at hx; rcases hx with rfl | rfl | rfl <;> rfl), ?_⟩
  have H : Gives (g8 a0 a1 a2) (fun a => a = r) := ⟨r, hok, rfl⟩
  unfold g8 at H
  clear hok
  refine R.cut_famX H 12 [0, 1] [] (fun (v283 : List (Int × Int × Int × Int)) (g : (Option Addr × Nat)) => [(2, .v (.slice ((g.1)) (v283.length) ((g.2))))]) (fun (v283 : List (Int × Int × Int × Int)) (g : (Option Addr × Nat)) => []) [] 0 (fun q (v283 : List (Int × Int × Int × Int)) (g : (Option Addr × Nat)) => Reads q g.1 (ec c58 v283) ∧ v283.length ≤ g.2) (fun H => ?_)
  refine And.intro ?_ ?_
  · refine if_st H (fun h285 H => ?_) (fun h285 H => ?_)
    · refine ob_sl hc2 H fun h286 H => ?_
      have hs287 := sl_ec c58_len hR2 rfl hc2 h286
      refine ⟨(((a2.drop (0 : Int).toNat).take ((65 : Int).toNat - (0 : Int).toNat)), (if cp2 = (0 : Int).toNat then A2 else A2.map (·.add ((0 : Int).toNat * 4)), cp2 - (0 : Int).toNat)), ⟨H, hs287.1, (Nat.le_trans (Nat.le_of_eq (show _ = _ from hs287.2.1)) hs287.2.2)⟩, ⟨rfl⟩, ?_⟩
      repeat (refine And.intro (Ob.mk (by first | exact congrArg (fun m => Value.slice _ m _) (show _ = _ from hs287.2.1) | first | exact rfl | exact Iff.rfl | exact ⟨rfl, rfl⟩ | exact decide_eq_true_iff | (constructor <;> first | rfl | simp [ei, eb, es, ec, c58]) | simp [ei, eb, es, ec, c58])) ?_)
      first | exact trivial | exact rfl
    · refine ⟨(a2, (A2, cp2)), ⟨H, hR2, hc2⟩, ⟨rfl⟩, ?_⟩
      repeat (refine And.intro (Ob.mk (by first | exact rfl | exact Iff.rfl | exact ⟨rfl, rfl⟩ | exact decide_eq_true_iff | (constructor <;> first | rfl | simp [ei, eb, es, ec, c58]) | simp [ei, eb, es, ec, c58])) ?_)
      first | exact trivial | exact rfl
  · rintro ⟨v283, ⟨A288, c289⟩⟩ ⟨H, hR290, hc291⟩
    dsimp only at H hR290 hc291
    refine if_st H (fun h303 H => ?_) (fun h303 H => ?_)
    · obtain ⟨v304, hv305, H⟩ := call_st H
      refine ⟨v304, ⟨hv305⟩, ⟨trivial⟩, ?_⟩
      have hfin := fin_st H
      repeat (refine And.intro (Ob.mk (by first | (rw [← hfin] <;> first | exact rfl | exact Iff.rfl | exact ⟨rfl, rfl⟩ | exact decide_eq_true_iff | (constructor <;> first | rfl | simp [ei, eb, es, ec, c58]) | simp [ei, eb, es, ec, c58]) | first | exact rfl | exact Iff.rfl | exact ⟨rfl, rfl⟩ | exact decide_eq_true_iff | (constructor <;> first | rfl | simp [ei, eb, es, ec, c58]) | simp [ei, eb, es, ec, c58])) ?_)
      first | exact trivial | exact rfl
    · obtain ⟨v306, hv307, H⟩ := call_st H
      refine ⟨(a0, a1, v283, v306), ⟨hv307⟩, ⟨trivial⟩, ?_⟩
      refine And.intro ⟨rfl⟩ ?_
      refine And.intro ⟨rfl⟩ ?_
      refine And.intro ⟨rfl, hc291, (ec_len c58_len).trans (congrArg (· * 4) (show _ = _ from rfl)), hR290⟩ ?_
      refine if_st H (fun h308 H => ?_) (fun h308 H => ?_)
      · obtain ⟨v309, hv310, H⟩ := call_st H
        refine ⟨v309, ⟨hv310⟩, ⟨trivial⟩, ?_⟩
        have hfin := fin_st H
        repeat (refine And.intro (Ob.mk (by first | (rw [← hfin] <;> first | exact rfl | exact Iff.rfl | exact ⟨rfl, rfl⟩ | exact decide_eq_true_iff | (constructor <;> first | rfl | simp [ei, eb, es, ec, c58]) | simp [ei, eb, es, ec, c58]) | first | exact rfl | exact Iff.rfl | exact ⟨rfl, rfl⟩ | exact decide_eq_true_iff | (constructor <;> first | rfl | simp [ei, eb, es, ec, c58]) | simp [ei, eb, es, ec, c58])) ?_)
        first | exact trivial | exact rfl
      · obtain ⟨v311, hv312, H⟩ := call_st H
        refine ⟨(a0, a1, v283, v311), ⟨hv312⟩, ⟨trivial⟩, ?_⟩
        refine And.intro ⟨rfl⟩ ?_
        refine And.intro ⟨rfl⟩ ?_
        refine And.intro ⟨rfl, hc291, (ec_len c58_len).trans (congrArg (· * 4) (show _ = _ from rfl)), hR290⟩ ?_
        refine ob_ck H fun h313 H => ?_
        obtain ⟨v314, hv315, H⟩ := call_st H
        refine ⟨(a0 + 1, a1, v283, v314), ⟨hv315⟩, ⟨trivial⟩, ?_⟩
        refine And.intro ⟨rfl⟩ ?_
        refine And.intro ⟨rfl⟩ ?_
        refine And.intro ⟨rfl, hc291, (ec_len c58_len).trans (congrArg (· * 4) (show _ = _ from rfl)), hR290⟩ ?_
        obtain ⟨v316, hv317, H⟩ := call_st H
        refine ⟨(a0, a1, v283, v316), ⟨hv317⟩, ⟨trivial⟩, ?_⟩
        refine And.intro ⟨rfl⟩ ?_
        refine And.intro ⟨rfl⟩ ?_
        refine And.intro ⟨rfl, hc291, (ec_len c58_len).trans (congrArg (· * 4) (show _ = _ from rfl)), hR290⟩ ?_
        refine ob_ck H fun h318 H => ?_
        obtain ⟨v319, hv320, H⟩ := call_st H
        refine ⟨(a0 + 1, a1, v283, v319), ⟨hv320⟩, ⟨trivial⟩, ?_⟩
        refine And.intro ⟨rfl⟩ ?_
        refine And.intro ⟨rfl⟩ ?_
        refine And.intro ⟨rfl, hc291, (ec_len c58_len).trans (congrArg (· * 4) (show _ = _ from rfl)), hR290⟩ ?_
        refine if_st H (fun h336 H => ?_) (fun h336 H => ?_)
        · have hfin := fin_st H
          repeat (refine And.intro (Ob.mk (by first | (rw [← hfin] <;> first | exact rfl | exact Iff.rfl | exact ⟨rfl, rfl⟩ | exact decide_eq_true_iff | (constructor <;> first | rfl | simp [ei, eb, es, ec, c58]) | simp [ei, eb, es, ec, c58]) | first | exact rfl | exact Iff.rfl | exact ⟨rfl, rfl⟩ | exact decide_eq_true_iff | (constructor <;> first | rfl | simp [ei, eb, es, ec, c58]) | simp [ei, eb, es, ec, c58])) ?_)
          first | exact trivial | exact rfl
        · refine if_st H (fun h337 H => ?_) (fun h337 H => ?_)
          · have hfin := fin_st H
            repeat (refine And.intro (Ob.mk (by first | (rw [← hfin] <;> first | exact rfl | exact Iff.rfl | exact ⟨rfl, rfl⟩ | exact decide_eq_true_iff | (constructor <;> first | rfl | simp [ei, eb, es, ec, c58]) | simp [ei, eb, es, ec, c58]) | first | exact rfl | exact Iff.rfl | exact ⟨rfl, rfl⟩ | exact decide_eq_true_iff | (constructor <;> first | rfl | simp [ei, eb, es, ec, c58]) | simp [ei, eb, es, ec, c58])) ?_)
            first | exact trivial | exact rfl
          · refine if_st H (fun h338 H => ?_) (fun h338 H => ?_)
            · have hfin := fin_st H
              repeat (refine And.intro (Ob.mk (by first | (rw [← hfin] <;> first | exact rfl | exact Iff.rfl | exact ⟨rfl, rfl⟩ | exact decide_eq_true_iff | (constructor <;> first | rfl | simp [ei, eb, es, ec, c58]) | simp [ei, eb, es, ec, c58]) | first | exact rfl | exact Iff.rfl | exact ⟨rfl, rfl⟩ | exact decide_eq_true_iff | (constructor <;> first | rfl | simp [ei, eb, es, ec, c58]) | simp [ei, eb, es, ec, c58])) ?_)
              first | exact trivial | exact rfl
            · refine if_st H (fun h339 H => ?_) (fun h339 H => ?_)
              · have hfin := fin_st H
                repeat (refine And.intro (Ob.mk (by first | (rw [← hfin] <;> first | exact rfl | exact Iff.rfl | exact ⟨rfl, rfl⟩ | exact decide_eq_true_iff | (constructor <;> first | rfl | simp [ei, eb, es, ec, c58]) | simp [ei, eb, es, ec, c58]) | first | exact rfl | exact Iff.rfl | exact ⟨rfl, rfl⟩ | exact decide_eq_true_iff | (constructor <;> first | rfl | simp [ei, eb, es, ec, c58]) | simp [ei, eb, es, ec, c58])) ?_)
                first | exact trivial | exact rfl
              · refine if_st H (fun h340 H => ?_) (fun h340 H => ?_)
                · have hfin := fin_st H
                  repeat (refine And.intro (Ob.mk (by first | (rw [← hfin] <;> first | exact rfl | exact Iff.rfl | exact ⟨rfl, rfl⟩ | exact decide_eq_true_iff | (constructor <;> first | rfl | simp [ei, eb, es, ec, c58]) | simp [ei, eb, es, ec, c58]) | first | exact rfl | exact Iff.rfl | exact ⟨rfl, rfl⟩ | exact decide_eq_true_iff | (constructor <;> first | rfl | simp [ei, eb, es, ec, c58]) | simp [ei, eb, es, ec, c58])) ?_)
                  first | exact trivial | exact rfl
                · refine if_st H (fun h341 H => ?_) (fun h341 H => ?_)
                  · have hfin := fin_st H
                    repeat (refine And.intro (Ob.mk (by first | (rw [← hfin] <;> first | exact rfl | exact Iff.rfl | exact ⟨rfl, rfl⟩ | exact decide_eq_true_iff | (constructor <;> first | rfl | simp [ei, eb, es, ec, c58]) | simp [ei, eb, es, ec, c58]) | first | exact rfl | exact Iff.rfl | exact ⟨rfl, rfl⟩ | exact decide_eq_true_iff | (constructor <;> first | rfl | simp [ei, eb, es, ec, c58]) | simp [ei, eb, es, ec, c58])) ?_)
                    first | exact trivial | exact rfl
                  · refine if_st H (fun h342 H => ?_) (fun h342 H => ?_)
                    · have hfin := fin_st H
                      repeat (refine And.intro (Ob.mk (by first | (rw [← hfin] <;> first | exact rfl | exact Iff.rfl | exact ⟨rfl, rfl⟩ | exact decide_eq_true_iff | (constructor <;> first | rfl | simp [ei, eb, es, ec, c58]) | simp [ei, eb, es, ec, c58]) | first | exact rfl | exact Iff.rfl | exact ⟨rfl, rfl⟩ | exact decide_eq_true_iff | (constructor <;> first | rfl | simp [ei, eb, es, ec, c58]) | simp [ei, eb, es, ec, c58])) ?_)
                      first | exact trivial | exact rfl
                    · refine if_st H (fun h343 H => ?_) (fun h343 H => ?_)
                      · have hfin := fin_st H
                        repeat (refine And.intro (Ob.mk (by first | (rw [← hfin] <;> first | exact rfl | exact Iff.rfl | exact ⟨rfl, rfl⟩ | exact decide_eq_true_iff | (constructor <;> first | rfl | simp [ei, eb, es, ec, c58]) | simp [ei, eb, es, ec, c58]) | first | exact rfl | exact Iff.rfl | exact ⟨rfl, rfl⟩ | exact decide_eq_true_iff | (constructor <;> first | rfl | simp [ei, eb, es, ec, c58]) | simp [ei, eb, es, ec, c58])) ?_)
                        first | exact trivial | exact rfl
                      · refine R.cut_fam H 113 [] [] (fun v495 => [(15, .v (.int .i64 (v495)))]) (fun v495 => []) [(30, .arr 4 1 (v311.1.length) (eb (v311.1))), (41, .arr 4 1 (v314.1.length) (eb (v314.1))), (51, .arr 3 1 (v316.1.length) (ei .i64 (v316.1))), (62, .arr 3 1 (v319.1.length) (ei .i64 (v319.1)))] 0 (fun H => ?_)
                        refine And.intro ?_ ?_
                        · refine R.loop_fam (bind_st H) [7, 9, 11, 13] [] (fun _ s497 => [(15, .v (.int .i64 (s497.1))), (16, .v (.int .i64 (s497.2)))]) (fun _ s497 => []) 0 (fun n598 H => ?_)
                          refine ⟨(n598, _), ⟨H⟩, ⟨trivial⟩, ?_⟩
                          repeat (refine And.intro (Ob.mk (by first | exact rfl | exact Iff.rfl | exact ⟨rfl, rfl⟩ | exact decide_eq_true_iff | (constructor <;> first | rfl | simp [ei, eb, es, ec, c58]) | simp [ei, eb, es, ec, c58])) ?_)
                          rintro ⟨m0, s497⟩ H _
                          obtain ⟨m498, hm0, H⟩ := IG_succ H
                          dsimp only at hm0
                          subst hm0
                          try dsimp only at H
                          refine if_st H (fun h564 H => ?_) (fun h564 H => ?_)
                          · refine R.cut_fam H 123 [7, 9, 11, 13, 15, 16] [] (fun v569 => []) (fun v569 => []) [(30, .arr 4 1 (v311.1.length) (eb (v311.1))), (41, .arr 4 1 (v314.1.length) (eb (v314.1))), (51, .arr 3 1 (v316.1.length) (ei .i64 (v316.1))), (62, .arr 3 1 (v319.1.length) (ei .i64 (v319.1)))] 0 (fun H => ?_)
                            refine And.intro ?_ ?_
                            · refine ob_ck H fun h571 H => ?_
                              refine ld_bool (e := v311.1.getD s497.2.toNat false) (own_get (ys := eb v311.1) (by first | rfl | simp [ei, eb, es, ec, c58]) (eb_get (l := v311.1) (by first | exact tn h571 | (have := tn h571; simp at this ⊢; omega) | (have := tn h571; simp; omega)))) ?_
                              refine if_st H (fun h572 H => ?_) (fun h572 H => ?_)
                              · refine ob_ck H fun h573 H => ?_
                                refine ld_bool (e := v314.1.getD s497.2.toNat false) (own_get (ys := eb v314.1) (by first | rfl | simp [ei, eb, es, ec, c58]) (eb_get (l := v314.1) (by first | exact tn h573 | (have := tn h573; simp at this ⊢; omega) | (have := tn h573; simp; omega)))) ?_
                                refine if_st H (fun h574 H => ?_) (fun h574 H => ?_)
                                · replace H := some_st H
                                  dsimp only [stp, sm] at H
                                  have hfin := fin_st H
                                  repeat (refine And.intro (Ob.mk (by first | (rw [← hfin] <;> first | exact rfl | exact Iff.rfl | exact ⟨rfl, rfl⟩ | exact decide_eq_true_iff | (constructor <;> first | rfl | simp [ei, eb, es, ec, c58]) | simp [ei, eb, es, ec, c58]) | first | exact rfl | exact Iff.rfl | exact ⟨rfl, rfl⟩ | exact decide_eq_true_iff | (constructor <;> first | rfl | simp [ei, eb, es, ec, c58]) | simp [ei, eb, es, ec, c58])) ?_)
                                  first | exact trivial | exact rfl
                                · refine ⟨(), ⟨H⟩, ⟨rfl⟩, ?_⟩
                                  repeat (refine And.intro (Ob.mk (by first | exact rfl | exact Iff.rfl | exact ⟨rfl, rfl⟩ | exact decide_eq_true_iff | (constructor <;> first | rfl | simp [ei, eb, es, ec, c58]) | simp [ei, eb, es, ec, c58])) ?_)
                                  first | exact trivial | exact rfl
                              · refine ⟨(), ⟨H⟩, ⟨rfl⟩, ?_⟩
                                repeat (refine And.intro (Ob.mk (by first | exact rfl | exact Iff.rfl | exact ⟨rfl, rfl⟩ | exact decide_eq_true_iff | (constructor <;> first | rfl | simp [ei, eb, es, ec, c58]) | simp [ei, eb, es, ec, c58])) ?_)
                                first | exact trivial | exact rfl
                            · intro v569 H
                              obtain ⟨v575, hv576, H⟩ := call_st H
                              refine ⟨(v311.1, v314.1, v575), ⟨hv576⟩, ⟨trivial⟩, ?_⟩
                              refine And.intro ⟨by first | rfl | (simp; done), by first | rfl | (simp [ei, eb, es, ec, c58]; done) | (simp only [ei, eb, es, ec, c58, List.map_append, List.nil_append, List.append_assoc]; rfl)⟩ ?_
                              refine And.intro ⟨by first | rfl | (simp; done), by first | rfl | (simp [ei, eb, es, ec, c58]; done) | (simp only [ei, eb, es, ec, c58, List.map_append, List.nil_append, List.append_assoc]; rfl)⟩ ?_
                              refine if_st H (fun h577 H => ?_) (fun h577 H => ?_)
                              · refine And.intro ⟨by kernel_rfl⟩ ?_
                                refine ob_ck H fun h578 H => ?_
                                refine ld_int (e := v319.1.getD s497.2.toNat 0) (own_get (ys := ei .i64 v319.1) (by first | rfl | simp [ei, eb, es, ec, c58]) (ei_get (l := v319.1) (by first | exact tn h578 | (have := tn h578; simp at this ⊢; omega) | (have := tn h578; simp; omega)))) ?_
                                refine ob_ck H fun h579 H => ?_
                                refine ld_int (e := v316.1.getD s497.2.toNat 0) (own_get (ys := ei .i64 v316.1) (by first | rfl | simp [ei, eb, es, ec, c58]) (ei_get (l := v316.1) (by first | exact tn h579 | (have := tn h579; simp at this ⊢; omega) | (have := tn h579; simp; omega)))) ?_
                                refine if_st H (fun h580 H => ?_) (fun h580 H => ?_)
                                · refine ob_ck H fun h581 H => ?_
                                  refine ld_int (e := v319.1.getD s497.2.toNat 0) (own_get (ys := ei .i64 v319.1) (by first | rfl | simp [ei, eb, es, ec, c58]) (ei_get (l := v319.1) (by first | exact tn h581 | (have := tn h581; simp at this ⊢; omega) | (have := tn h581; simp; omega)))) ?_
                                  refine ob_ck H fun h582 H => ?_
                                  refine ld_int (e := v316.1.getD s497.2.toNat 0) (own_get (ys := ei .i64 v316.1) (by first | rfl | simp [ei, eb, es, ec, c58]) (ei_get (l := v316.1) (by first | exact tn h582 | (have := tn h582; simp at this ⊢; omega) | (have := tn h582; simp; omega)))) ?_
                                  refine ob_ck H fun h583 H => ?_
                                  refine if_st H (fun h584 H => ?_) (fun h584 H => ?_)
                                  · replace H := some_st H
                                    dsimp only [stp, sm] at H
                                    have hfin := fin_st H
                                    repeat (refine And.intro (Ob.mk (by first | (rw [← hfin] <;> first | exact rfl | exact Iff.rfl | exact ⟨rfl, rfl⟩ | exact decide_eq_true_iff | (constructor <;> first | rfl | simp [ei, eb, es, ec, c58]) | simp [ei, eb, es, ec, c58]) | first | exact rfl | exact Iff.rfl | exact ⟨rfl, rfl⟩ | exact decide_eq_true_iff | (constructor <;> first | rfl | simp [ei, eb, es, ec, c58]) | simp [ei, eb, es, ec, c58])) ?_)
                                    first | exact trivial | exact rfl
                                  · refine And.intro ⟨by kernel_rfl⟩ ?_
                                    refine ob_ck H fun h585 H => ?_
                                    refine ld_int (e := v319.1.getD s497.2.toNat 0) (own_get (ys := ei .i64 v319.1) (by first | rfl | simp [ei, eb, es, ec, c58]) (ei_get (l := v319.1) (by first | exact tn h585 | (have := tn h585; simp at this ⊢; omega) | (have := tn h585; simp; omega)))) ?_
                                    refine ob_ck H fun h586 H => ?_
                                    refine ob_ck H fun h587 H => ?_
                                    refine ld_int (e := v316.1.getD s497.2.toNat 0) (own_get (ys := ei .i64 v316.1) (by first | rfl | simp [ei, eb, es, ec, c58]) (ei_get (l := v316.1) (by first | exact tn h587 | (have := tn h587; simp at this ⊢; omega) | (have := tn h587; simp; omega)))) ?_
                                    refine ob_ck H fun h588 H => ?_
                                    refine ob_ck H fun h589 H => ?_
                                    replace H := some_st H
                                    refine ⟨(m498, ((s497.1 + (v319.1.getD s497.2.toNat 0)) - (v316.1.getD s497.2.toNat 0), s497.2 + 1)), ⟨H, Nat.lt_succ_self _⟩, ⟨trivial⟩, ⟨rfl⟩, ?_⟩
                                    repeat (refine And.intro (Ob.mk (by first | exact rfl | exact Iff.rfl | exact ⟨rfl, rfl⟩ | exact decide_eq_true_iff | (constructor <;> first | rfl | simp [ei, eb, es, ec, c58]) | simp [ei, eb, es, ec, c58])) ?_)
                                    first | exact trivial | exact rfl
                                · refine And.intro ⟨by kernel_rfl⟩ ?_
                                  refine ob_ck H fun h590 H => ?_
                                  refine ld_int (e := v319.1.getD s497.2.toNat 0) (own_get (ys := ei .i64 v319.1) (by first | rfl | simp [ei, eb, es, ec, c58]) (ei_get (l := v319.1) (by first | exact tn h590 | (have := tn h590; simp at this ⊢; omega) | (have := tn h590; simp; omega)))) ?_
                                  refine ob_ck H fun h591 H => ?_
                                  refine ob_ck H fun h592 H => ?_
                                  refine ld_int (e := v316.1.getD s497.2.toNat 0) (own_get (ys := ei .i64 v316.1) (by first | rfl | simp [ei, eb, es, ec, c58]) (ei_get (l := v316.1) (by first | exact tn h592 | (have := tn h592; simp at this ⊢; omega) | (have := tn h592; simp; omega)))) ?_
                                  refine ob_ck H fun h593 H => ?_
                                  refine ob_ck H fun h594 H => ?_
                                  replace H := some_st H
                                  refine ⟨(m498, ((s497.1 + (v319.1.getD s497.2.toNat 0)) - (v316.1.getD s497.2.toNat 0), s497.2 + 1)), ⟨H, Nat.lt_succ_self _⟩, ⟨trivial⟩, ⟨rfl⟩, ?_⟩
                                  repeat (refine And.intro (Ob.mk (by first | exact rfl | exact Iff.rfl | exact ⟨rfl, rfl⟩ | exact decide_eq_true_iff | (constructor <;> first | rfl | simp [ei, eb, es, ec, c58]) | simp [ei, eb, es, ec, c58])) ?_)
                                  first | exact trivial | exact rfl
                              · refine ob_ck H fun h595 H => ?_
                                replace H := some_st H
                                refine ⟨(m498, (s497.1, s497.2 + 1)), ⟨H, Nat.lt_succ_self _⟩, ⟨trivial⟩, ⟨rfl⟩, ?_⟩
                                repeat (refine And.intro (Ob.mk (by first | exact rfl | exact Iff.rfl | exact ⟨rfl, rfl⟩ | exact decide_eq_true_iff | (constructor <;> first | rfl | simp [ei, eb, es, ec, c58]) | simp [ei, eb, es, ec, c58])) ?_)
                                first | exact trivial | exact rfl
                          · replace H := some_st H
                            dsimp only [stp, sm] at H
                            refine ⟨s497.1, ⟨H⟩, ⟨rfl⟩, ?_⟩
                            repeat (refine And.intro (Ob.mk (by first | exact rfl | exact Iff.rfl | exact ⟨rfl, rfl⟩ | exact decide_eq_true_iff | (constructor <;> first | rfl | simp [ei, eb, es, ec, c58]) | simp [ei, eb, es, ec, c58])) ?_)
                            first | exact trivial | exact rfl
                        · intro v495 H
                          refine if_st H (fun h599 H => ?_) (fun h599 H => ?_)
                          · obtain ⟨v600, hv601, H⟩ := call_st H
                            refine ⟨v600, ⟨hv601⟩, ⟨trivial⟩, ?_⟩
                            have hfin := fin_st H
                            repeat (refine And.intro (Ob.mk (by first | (rw [← hfin] <;> first | exact rfl | exact Iff.rfl | exact ⟨rfl, rfl⟩ | exact decide_eq_true_iff | (constructor <;> first | rfl | simp [ei, eb, es, ec, c58]) | simp [ei, eb, es, ec, c58]) | first | exact rfl | exact Iff.rfl | exact ⟨rfl, rfl⟩ | exact decide_eq_true_iff | (constructor <;> first | rfl | simp [ei, eb, es, ec, c58]) | simp [ei, eb, es, ec, c58])) ?_)
                            first | exact trivial | exact rfl
                          · have hfin := fin_st H
                            repeat (refine And.intro (Ob.mk (by first | (rw [← hfin] <;> first | exact rfl | exact Iff.rfl | exact ⟨rfl, rfl⟩ | exact decide_eq_true_iff | (constructor <;> first | rfl | simp [ei, eb, es, ec, c58]) | simp [ei, eb, es, ec, c58]) | first | exact rfl | exact Iff.rfl | exact ⟨rfl, rfl⟩ | exact decide_eq_true_iff | (constructor <;> first | rfl | simp [ei, eb, es, ec, c58]) | simp [ei, eb, es, ec, c58])) ?_)
                            first | exact trivial | exact rfl

/-- placard/placardlaw16.LayoutFair -/
noncomputable def g9 (a0 : Int) (a1 : Int) (a2 : List (Int × Int × Int × Int)) : Option (Bool) :=
  jn (α := _) (β := List (Int × Int × Int × Int)) (fun k612 =>
      if 65 < ((a2.length : Nat) : Int) then
        (
          ck (0 ≤ (0 : Int) ∧ (0 : Int) ≤ (65 : Int) ∧ (65 : Int) ≤ ((a2.length : Nat) : Int)) <|
          k612 ((a2.drop (0 : Int).toNat).take ((65 : Int).toNat - (0 : Int).toNat))
        )
      else
        k612 a2
  ) (fun v611 =>
    (g34 a0 a1 v611).bind fun v625 =>
    if ¬ v625 = 0 then
      (
        (g36).bind fun v628 =>
        some v628
      )
    else
      (
        (g37 a0 a1 v611).bind fun v630 =>
        (g38 a0 a1 v611).bind fun v632 =>
        if ¬ v630.2 = 0 then
          some false
        else
          (
            if ¬ v632.2 = 0 then
              some false
            else
              (
                if ¬ ((v630.1.length : Nat) : Int) = ((v611.length : Nat) : Int) then
                  some false
                else
                  (
                    if ¬ ((v632.1.length : Nat) : Int) = ((v611.length : Nat) : Int) then
                      some false
                    else
                      (
                        jn (α := _) (β := Unit) (fun k1602 =>
                            (loopO (σ := Int) (ρ := (Unit) ⊕ (Unit)) (fun s1603 =>
                                if s1603 < ((v630.1.length : Nat) : Int) then
                                  (
                                    jn (α := _) (β := Unit) (fun k2366 =>
                                        (loopO (σ := Int) (ρ := (Unit) ⊕ (Unit)) (fun s2367 =>
                                            if s2367 < s1603 then
                                              (
                                                jn (α := _) (β := Unit) (fun k2490 =>
                                                    ck (0 ≤ s1603 ∧ s1603 < ((v632.1.length : Nat) : Int)) <|
                                                    if ¬ ((v632.1.getD s1603.toNat false) = true) then
                                                      k2490 ()
                                                    else
                                                      (
                                                        ck (0 ≤ s2367 ∧ s2367 < ((v632.1.length : Nat) : Int)) <|
                                                        if ¬ ((v632.1.getD s2367.toNat false) = true) then
                                                          k2490 ()
                                                        else
                                                          (
                                                            ck (0 ≤ s1603 ∧ s1603 < ((v611.length : Nat) : Int)) <|
                                                            ck (0 ≤ s2367 ∧ s2367 < ((v611.length : Nat) : Int)) <|
                                                            if ¬ ((v611.getD s1603.toNat default).2.2.1) = ((v611.getD s2367.toNat default).2.2.1) then
                                                              k2490 ()
                                                            else
                                                              (
                                                                ck (0 ≤ s1603 ∧ s1603 < ((v630.1.length : Nat) : Int)) <|
                                                                ck (0 ≤ s1603 ∧ s1603 < ((v611.length : Nat) : Int)) <|
                                                                if (v630.1.getD s1603.toNat 0) = ((v611.getD s1603.toNat default).2.1) then
                                                                  k2490 ()
                                                                else
                                                                  (
                                                                    ck (0 ≤ s2367 ∧ s2367 < ((v630.1.length : Nat) : Int)) <|
                                                                    ck (0 ≤ s2367 ∧ s2367 < ((v611.length : Nat) : Int)) <|
                                                                    if (v630.1.getD s2367.toNat 0) = ((v611.getD s2367.toNat default).2.1) then
                                                                      k2490 ()
                                                                    else
                                                                      (
                                                                        ck (0 ≤ s1603 ∧ s1603 < ((v630.1.length : Nat) : Int)) <|
                                                                        ck (0 ≤ s1603 ∧ s1603 < ((v611.length : Nat) : Int)) <|
                                                                        ck (inR .i64 ((v630.1.getD s1603.toNat 0) - ((v611.getD s1603.toNat default).1))) <|
                                                                        ck (0 ≤ s2367 ∧ s2367 < ((v630.1.length : Nat) : Int)) <|
                                                                        ck (0 ≤ s2367 ∧ s2367 < ((v611.length : Nat) : Int)) <|
                                                                        ck (inR .i64 ((v630.1.getD s2367.toNat 0) - ((v611.getD s2367.toNat default).1))) <|
                                                                        ck (inR .i64 (((v630.1.getD s1603.toNat 0) - ((v611.getD s1603.toNat default).1)) - ((v630.1.getD s2367.toNat 0) - ((v611.getD s2367.toNat default).1)))) <|
                                                                        if 1 < (((v630.1.getD s1603.toNat 0) - ((v611.getD s1603.toNat default).1)) - ((v630.1.getD s2367.toNat 0) - ((v611.getD s2367.toNat default).1))) then
                                                                          some (.out (.inl (())))
                                                                        else
                                                                          (
                                                                            if (((v630.1.getD s1603.toNat 0) - ((v611.getD s1603.toNat default).1)) - ((v630.1.getD s2367.toNat 0) - ((v611.getD s2367.toNat default).1))) < (-1) then
                                                                              some (.out (.inl (())))
                                                                            else
                                                                              k2490 ()
                                                                          )
                                                                      )
                                                                  )
                                                              )
                                                          )
                                                      )
                                                ) (fun v2489 =>
                                                  ck (inR .i64 (s2367 + 1)) <|
                                                  some (.go (s2367 + 1))
                                                )
                                              )
                                            else
                                              some (.out (.inr (())))
                                          ) 0).bind fun o2465 =>
                                        sm o2465 (fun o2514 =>
                                            some (.out (.inl (())))
                                          ) (fun o2515 =>
                                            k2366 ()
                                          )
                                    ) (fun v2365 =>
                                      ck (inR .i64 (s1603 + 1)) <|
                                      some (.go (s1603 + 1))
                                    )
                                  )
                                else
                                  some (.out (.inr (())))
                              ) 0).bind fun o2213 =>
                            sm o2213 (fun o2518 =>
                                some false
                              ) (fun o2519 =>
                                k1602 ()
                              )
                        ) (fun v1601 =>
                          (g36).bind fun v2521 =>
                          some v2521
                        )
                      )
                  )
              )
          )
      )
  )
noncomputable def k9 : Eng.CS := { f := 9, calm := true, more := 0, ι := Int × Int × (List (Int × Int × Int × Int)) × Bool, ok := fun i => g9 i.1 i.2.1 i.2.2.1 = some i.2.2.2, rds := fun _ => [], args := fun i => [.w (.v (.int .i64 (i.1))), .w (.v (.int .i64 (i.2.1))), .sl 4 i.2.2.1.length (ec c58 i.2.2.1)], res := fun i => bS i.2.2.2 }
set_option maxRecDepth 8000 in
set_option maxHeartbeats 4000000 in
theorem k9_ok : CalmOk Try.prog k9 := by
  refine R.calmspec Try.func9 nm9 rfl ?_
  rintro ⟨a0, a1, a2, r⟩ hok q _ args hargs
  match args, hargs with
  | [_, _, _], hargs =>
  obtain ⟨rfl, rfl, ⟨A2, cp2, rfl, hc2, _, hR2⟩, _⟩ := hargs
  refine ⟨envC [k34, k36, k37, k38] false [(9, 2), (9, 10), (9, 13), (9, 18)], 6, envC_ok (css_cons ⟨fun _ => k34_ok, fun h => (by cases h)⟩ (css_cons ⟨fun _ => k36_ok, fun h => (by cases h)⟩ (css_cons ⟨fun h => (by cases h), fun _ => k37_ok⟩ (css_cons ⟨fun h => (by cases h), fun _ => k38_ok⟩ (css_nil))))), rfl, (by intro x hx; simp only [List.mem_cons, List.not_mem_nil, or_false] at hx; rcases hx with rfl | rfl | rfl <;> rfl), ?_⟩
  have H : Gives (g9 a0 a1 a2) (fun a => a = r) := ⟨r, hok, rfl⟩
  unfold g9 at H
  clear hok
  refine R.cut_famX H 12 [0, 1] [] (fun (v611 : List (Int × Int × Int × Int)) (g : (Option Addr × Nat)) => [(2, .v (.slice ((g.1)) (v611.length) ((g.2))))]) (fun (v611 : List (Int × Int × Int × Int)) (g : (Option Addr × Nat)) => []) [] 0 (fun q (v611 : List (Int × Int × Int × Int)) (g : (Option Addr × Nat)) => Reads q g.1 (ec c58 v611) ∧ v611.length ≤ g.2) (fun H => ?_)
  refine And.intro ?_ ?_
  · refine if_st H (fun h613 H => ?_) (fun h613 H => ?_)
    · refine ob_sl hc2 H fun h614 H => ?_
      have hs615 := sl_ec c58_len hR2 rfl hc2 h614
      refine ⟨(((a2.drop (0 : Int).toNat).take ((65 : Int).toNat - (0 : Int).toNat)), (if cp2 = (0 : Int).toNat then A2 else A2.map (·.add ((0 : Int).toNat * 4)), cp2 - (0 : Int).toNat)), ⟨H, hs615.1, (Nat.le_trans (Nat.le_of_eq (show _ = _ from hs615.2.1)) hs615.2.2)⟩, ⟨rfl⟩, ?_⟩
      repeat (refine And.intro (Ob.mk (by first | exact congrArg (fun m => Value.slice _ m _) (show _ = _ from hs615.2.1) | first | exact rfl | exact Iff.rfl | exact ⟨rfl, rfl⟩ | exact decide_eq_true_iff | (constructor <;> first | rfl | simp [ei, eb, es, ec, c58]) | simp [ei, eb, es, ec, c58])) ?_)
      first | exact trivial | exact rfl
    · refine ⟨(a2, (A2, cp2)), ⟨H, hR2, hc2⟩, ⟨rfl⟩, ?_⟩
      repeat (refine And.intro (Ob.mk (by first | exact rfl | exact Iff.rfl | exact ⟨rfl, rfl⟩ | exact decide_eq_true_iff | (constructor <;> first | rfl | simp [ei, eb, es, ec, c58]) | simp [ei, eb, es, ec, c58])) ?_)
      first | exact trivial | exact rfl
  · rintro ⟨v611, ⟨A616, c617⟩⟩ ⟨H, hR618, hc619⟩
    dsimp only at H hR618 hc619
    obtain ⟨v625, hv626, H⟩ := call_st H
    refine ⟨(a0, a1, v611, v625), ⟨hv626⟩, ⟨trivial⟩, ?_⟩
    refine And.intro ⟨rfl⟩ ?_
    refine And.intro ⟨rfl⟩ ?_
    refine And.intro ⟨rfl, hc619, (ec_len c58_len).trans (congrArg (· * 4) (show _ = _ from rfl)), hR618⟩ ?_
    refine if_st H (fun h627 H => ?_) (fun h627 H => ?_)
    · obtain ⟨v628, hv629, H⟩ := call_st H
      refine ⟨v628, ⟨hv629⟩, ⟨trivial⟩, ?_⟩
      have hfin := fin_st H
      repeat (refine And.intro (Ob.mk (by first | (rw [← hfin] <;> first | exact rfl | exact Iff.rfl | exact ⟨rfl, rfl⟩ | exact decide_eq_true_iff | (constructor <;> first | rfl | simp [ei, eb, es, ec, c58]) | simp [ei, eb, es, ec, c58]) | first | exact rfl | exact Iff.rfl | exact ⟨rfl, rfl⟩ | exact decide_eq_true_iff | (constructor <;> first | rfl | simp [ei, eb, es, ec, c58]) | simp [ei, eb, es, ec, c58])) ?_)
      first | exact trivial | exact rfl
    · obtain ⟨v630, hv631, H⟩ := call_st H
      refine ⟨(a0, a1, v611, v630), ⟨hv631⟩, ⟨trivial⟩, ?_⟩
      refine And.intro ⟨rfl⟩ ?_
      refine And.intro ⟨rfl⟩ ?_
      refine And.intro ⟨rfl, hc619, (ec_len c58_len).trans (congrArg (· * 4) (show _ = _ from rfl)), hR618⟩ ?_
      obtain ⟨v632, hv633, H⟩ := call_st H
      refine ⟨(a0, a1, v611, v632), ⟨hv633⟩, ⟨trivial⟩, ?_⟩
      refine And.intro ⟨rfl⟩ ?_
      refine And.intro ⟨rfl⟩ ?_
      refine And.intro ⟨rfl, hc619, (ec_len c58_len).trans (congrArg (· * 4) (show _ = _ from rfl)), hR618⟩ ?_
      refine if_st H (fun h641 H => ?_) (fun h641 H => ?_)
      · have hfin := fin_st H
        repeat (refine And.intro (Ob.mk (by first | (rw [← hfin] <;> first | exact rfl | exact Iff.rfl | exact ⟨rfl, rfl⟩ | exact decide_eq_true_iff | (constructor <;> first | rfl | simp [ei, eb, es, ec, c58]) | simp [ei, eb, es, ec, c58]) | first | exact rfl | exact Iff.rfl | exact ⟨rfl, rfl⟩ | exact decide_eq_true_iff | (constructor <;> first | rfl | simp [ei, eb, es, ec, c58]) | simp [ei, eb, es, ec, c58])) ?_)
        first | exact trivial | exact rfl
      · refine if_st H (fun h642 H => ?_) (fun h642 H => ?_)
        · have hfin := fin_st H
          repeat (refine And.intro (Ob.mk (by first | (rw [← hfin] <;> first | exact rfl | exact Iff.rfl | exact ⟨rfl, rfl⟩ | exact decide_eq_true_iff | (constructor <;> first | rfl | simp [ei, eb, es, ec, c58]) | simp [ei, eb, es, ec, c58]) | first | exact rfl | exact Iff.rfl | exact ⟨rfl, rfl⟩ | exact decide_eq_true_iff | (constructor <;> first | rfl | simp [ei, eb, es, ec, c58]) | simp [ei, eb, es, ec, c58])) ?_)
          first | exact trivial | exact rfl
        · refine if_st H (fun h643 H => ?_) (fun h643 H => ?_)
          · have hfin := fin_st H
            repeat (refine And.intro (Ob.mk (by first | (rw [← hfin] <;> first | exact rfl | exact Iff.rfl | exact ⟨rfl, rfl⟩ | exact decide_eq_true_iff | (constructor <;> first | rfl | simp [ei, eb, es, ec, c58]) | simp [ei, eb, es, ec, c58]) | first | exact rfl | exact Iff.rfl | exact ⟨rfl, rfl⟩ | exact decide_eq_true_iff | (constructor <;> first | rfl | simp [ei, eb, es, ec, c58]) | simp [ei, eb, es, ec, c58])) ?_)
            first | exact trivial | exact rfl
          · refine if_st H (fun h644 H => ?_) (fun h644 H => ?_)
            · have hfin := fin_st H
              repeat (refine And.intro (Ob.mk (by first | (rw [← hfin] <;> first | exact rfl | exact Iff.rfl | exact ⟨rfl, rfl⟩ | exact decide_eq_true_iff | (constructor <;> first | rfl | simp [ei, eb, es, ec, c58]) | simp [ei, eb, es, ec, c58]) | first | exact rfl | exact Iff.rfl | exact ⟨rfl, rfl⟩ | exact decide_eq_true_iff | (constructor <;> first | rfl | simp [ei, eb, es, ec, c58]) | simp [ei, eb, es, ec, c58])) ?_)
              first | exact trivial | exact rfl
            · refine R.cut_fam H 64 [] [] (fun v1601 => []) (fun v1601 => []) [(26, .arr 3 1 (v630.1.length) (ei .i64 (v630.1))), (36, .arr 4 1 (v632.1.length) (eb (v632.1)))] 0 (fun H => ?_)
              refine And.intro ?_ ?_
              · refine R.loop_fam (bind_st H) [2, 7, 9] [] (fun _ s1603 => [(11, .v (.int .i64 (s1603)))]) (fun _ s1603 => []) 0 (fun n2520 H => ?_)
                refine ⟨(n2520, _), ⟨H⟩, ⟨trivial⟩, ?_⟩
                repeat (refine And.intro (Ob.mk (by first | exact rfl | exact Iff.rfl | exact ⟨rfl, rfl⟩ | exact decide_eq_true_iff | (constructor <;> first | rfl | simp [ei, eb, es, ec, c58]) | simp [ei, eb, es, ec, c58])) ?_)
                rintro ⟨m0, s1603⟩ H _
                obtain ⟨m1604, hm0, H⟩ := IG_succ H
                dsimp only at hm0
                subst hm0
                try dsimp only at H
                refine if_st H (fun h2214 H => ?_) (fun h2214 H => ?_)
                · refine R.cut_fam H 68 [2, 7, 9, 11] [] (fun v2365 => []) (fun v2365 => []) [(26, .arr 3 1 (v630.1.length) (ei .i64 (v630.1))), (36, .arr 4 1 (v632.1.length) (eb (v632.1)))] 0 (fun H => ?_)
                  refine And.intro ?_ ?_
                  · refine R.loop_fam (bind_st H) [2, 7, 9, 11] [] (fun _ s2367 => [(12, .v (.int .i64 (s2367)))]) (fun _ s2367 => []) 0 (fun n2516 H => ?_)
                    refine ⟨(n2516, _), ⟨H⟩, ⟨trivial⟩, ?_⟩
                    repeat (refine And.intro (Ob.mk (by first | exact rfl | exact Iff.rfl | exact ⟨rfl, rfl⟩ | exact decide_eq_true_iff | (constructor <;> first | rfl | simp [ei, eb, es, ec, c58]) | simp [ei, eb, es, ec, c58])) ?_)
                    rintro ⟨m0, s2367⟩ H _
                    obtain ⟨m2368, hm0, H⟩ := IG_succ H
                    dsimp only at hm0
                    subst hm0
                    try dsimp only at H
                    refine if_st H (fun h2466 H => ?_) (fun h2466 H => ?_)
                    · refine R.cut_fam H 144 [2, 7, 9, 11, 12] [] (fun v2489 => []) (fun v2489 => []) [(26, .arr 3 1 (v630.1.length) (ei .i64 (v630.1))), (36, .arr 4 1 (v632.1.length) (eb (v632.1)))] 0 (fun H => ?_)
                      refine And.intro ?_ ?_
                      · refine And.intro ⟨by kernel_rfl⟩ ?_
                        refine ob_ck H fun h2491 H => ?_
                        refine ld_bool (e := v632.1.getD s1603.toNat false) (own_get (ys := eb v632.1) (by first | rfl | simp [ei, eb, es, ec, c58]) (eb_get (l := v632.1) (by first | exact tn h2491 | (have := tn h2491; simp at this ⊢; omega) | (have := tn h2491; simp; omega)))) ?_
                        refine if_st H (fun h2492 H => ?_) (fun h2492 H => ?_)
                        · refine ⟨(), ⟨H⟩, ⟨rfl⟩, ?_⟩
                          repeat (refine And.intro (Ob.mk (by first | exact rfl | exact Iff.rfl | exact ⟨rfl, rfl⟩ | exact decide_eq_true_iff | (constructor <;> first | rfl | simp [ei, eb, es, ec, c58]) | simp [ei, eb, es, ec, c58])) ?_)
                          first | exact trivial | exact rfl
                        · refine ob_ck H fun h2493 H => ?_
                          refine ld_bool (e := v632.1.getD s2367.toNat false) (own_get (ys := eb v632.1) (by first | rfl | simp [ei, eb, es, ec, c58]) (eb_get (l := v632.1) (by first | exact tn h2493 | (have := tn h2493; simp at this ⊢; omega) | (have := tn h2493; simp; omega)))) ?_
                          refine if_st H (fun h2494 H => ?_) (fun h2494 H => ?_)
                          · refine ⟨(), ⟨H⟩, ⟨rfl⟩, ?_⟩
                            repeat (refine And.intro (Ob.mk (by first | exact rfl | exact Iff.rfl | exact ⟨rfl, rfl⟩ | exact decide_eq_true_iff | (constructor <;> first | rfl | simp [ei, eb, es, ec, c58]) | simp [ei, eb, es, ec, c58])) ?_)
                            first | exact trivial | exact rfl
                          · refine ob_ix hR618 (fun h => ec0 c58_len (by decide) h) H fun h2495 H => ?_
                            refine ld_int (e := (v611.getD s1603.toNat default).2.2.1) (rd_get hR618 ((ec_get (i := s1603.toNat) (o := 2) c58_len (tn h2495) (by decide)).trans rfl)) ?_
                            refine ob_ix hR618 (fun h => ec0 c58_len (by decide) h) H fun h2496 H => ?_
                            refine ld_int (e := (v611.getD s2367.toNat default).2.2.1) (rd_get hR618 ((ec_get (i := s2367.toNat) (o := 2) c58_len (tn h2496) (by decide)).trans rfl)) ?_
                            refine if_st H (fun h2497 H => ?_) (fun h2497 H => ?_)
                            · refine ⟨(), ⟨H⟩, ⟨rfl⟩, ?_⟩
                              repeat (refine And.intro (Ob.mk (by first | exact rfl | exact Iff.rfl | exact ⟨rfl, rfl⟩ | exact decide_eq_true_iff | (constructor <;> first | rfl | simp [ei, eb, es, ec, c58]) | simp [ei, eb, es, ec, c58])) ?_)
                              first | exact trivial | exact rfl
                            · refine ob_ck H fun h2498 H => ?_
                              refine ld_int (e := v630.1.getD s1603.toNat 0) (own_get (ys := ei .i64 v630.1) (by first | rfl | simp [ei, eb, es, ec, c58]) (ei_get (l := v630.1) (by first | exact tn h2498 | (have := tn h2498; simp at this ⊢; omega) | (have := tn h2498; simp; omega)))) ?_
                              refine ob_ix hR618 (fun h => ec0 c58_len (by decide) h) H fun h2499 H => ?_
                              refine ld_int (e := (v611.getD s1603.toNat default).2.1) (rd_get hR618 ((ec_get (i := s1603.toNat) (o := 1) c58_len (tn h2499) (by decide)).trans rfl)) ?_
                              refine if_st H (fun h2500 H => ?_) (fun h2500 H => ?_)
                              · refine ⟨(), ⟨H⟩, ⟨rfl⟩, ?_⟩
                                repeat (refine And.intro (Ob.mk (by first | exact rfl | exact Iff.rfl | exact ⟨rfl, rfl⟩ | exact decide_eq_true_iff | (constructor <;> first | rfl | simp [ei, eb, es, ec, c58]) | simp [ei, eb, es, ec, c58])) ?_)
                                first | exact trivial | exact rfl
                              · refine ob_ck H fun h2501 H => ?_
                                refine ld_int (e := v630.1.getD s2367.toNat 0) (own_get (ys := ei .i64 v630.1) (by first | rfl | simp [ei, eb, es, ec, c58]) (ei_get (l := v630.1) (by first | exact tn h2501 | (have := tn h2501; simp at this ⊢; omega) | (have := tn h2501; simp; omega)))) ?_
                                refine ob_ix hR618 (fun h => ec0 c58_len (by decide) h) H fun h2502 H => ?_
                                refine ld_int (e := (v611.getD s2367.toNat default).2.1) (rd_get hR618 ((ec_get (i := s2367.toNat) (o := 1) c58_len (tn h2502) (by decide)).trans rfl)) ?_
                                refine if_st H (fun h2503 H => ?_) (fun h2503 H => ?_)
                                · refine ⟨(), ⟨H⟩, ⟨rfl⟩, ?_⟩
                                  repeat (refine And.intro (Ob.mk (by first | exact rfl | exact Iff.rfl | exact ⟨rfl, rfl⟩ | exact decide_eq_true_iff | (constructor <;> first | rfl | simp [ei, eb, es, ec, c58]) | simp [ei, eb, es, ec, c58])) ?_)
                                  first | exact trivial | exact rfl
                                · refine And.intro ⟨by kernel_rfl⟩ ?_
                                  refine ob_ck H fun h2504 H => ?_
                                  refine ld_int (e := v630.1.getD s1603.toNat 0) (own_get (ys := ei .i64 v630.1) (by first | rfl | simp [ei, eb, es, ec, c58]) (ei_get (l := v630.1) (by first | exact tn h2504 | (have := tn h2504; simp at this ⊢; omega) | (have := tn h2504; simp; omega)))) ?_
                                  refine ob_ix hR618 (fun h => ec0 c58_len (by decide) h) H fun h2505 H => ?_
                                  refine ld_int (e := (v611.getD s1603.toNat default).1) (rd_get hR618 ((ec_get (i := s1603.toNat) (o := 0) c58_len (tn h2505) (by decide)).trans rfl)) ?_
                                  refine ob_ck H fun h2506 H => ?_
                                  refine ob_ck H fun h2507 H => ?_
                                  refine ld_int (e := v630.1.getD s2367.toNat 0) (own_get (ys := ei .i64 v630.1) (by first | rfl | simp [ei, eb, es, ec, c58]) (ei_get (l := v630.1) (by first | exact tn h2507 | (have := tn h2507; simp at this ⊢; omega) | (have := tn h2507; simp; omega)))) ?_
                                  refine ob_ix hR618 (fun h => ec0 c58_len (by decide) h) H fun h2508 H => ?_
                                  refine ld_int (e := (v611.getD s2367.toNat default).1) (rd_get hR618 ((ec_get (i := s2367.toNat) (o := 0) c58_len (tn h2508) (by decide)).trans rfl)) ?_
                                  refine ob_ck H fun h2509 H => ?_
                                  refine ob_ck H fun h2510 H => ?_
                                  refine if_st H (fun h2511 H => ?_) (fun h2511 H => ?_)
                                  · replace H := some_st H
                                    dsimp only [stp, sm] at H
                                    replace H := some_st H
                                    dsimp only [stp, sm] at H
                                    have hfin := fin_st H
                                    repeat (refine And.intro (Ob.mk (by first | (rw [← hfin] <;> first | exact rfl | exact Iff.rfl | exact ⟨rfl, rfl⟩ | exact decide_eq_true_iff | (constructor <;> first | rfl | simp [ei, eb, es, ec, c58]) | simp [ei, eb, es, ec, c58]) | first | exact rfl | exact Iff.rfl | exact ⟨rfl, rfl⟩ | exact decide_eq_true_iff | (constructor <;> first | rfl | simp [ei, eb, es, ec, c58]) | simp [ei, eb, es, ec, c58])) ?_)
                                    first | exact trivial | exact rfl
                                  · refine if_st H (fun h2512 H => ?_) (fun h2512 H => ?_)
                                    · replace H := some_st H
                                      dsimp only [stp, sm] at H
                                      replace H := some_st H
                                      dsimp only [stp, sm] at H
                                      have hfin := fin_st H
                                      repeat (refine And.intro (Ob.mk (by first | (rw [← hfin] <;> first | exact rfl | exact Iff.rfl | exact ⟨rfl, rfl⟩ | exact decide_eq_true_iff | (constructor <;> first | rfl | simp [ei, eb, es, ec, c58]) | simp [ei, eb, es, ec, c58]) | first | exact rfl | exact Iff.rfl | exact ⟨rfl, rfl⟩ | exact decide_eq_true_iff | (constructor <;> first | rfl | simp [ei, eb, es, ec, c58]) | simp [ei, eb, es, ec, c58])) ?_)
                                      first | exact trivial | exact rfl
                                    · refine ⟨(), ⟨H⟩, ⟨rfl⟩, ?_⟩
                                      repeat (refine And.intro (Ob.mk (by first | exact rfl | exact Iff.rfl | exact ⟨rfl, rfl⟩ | exact decide_eq_true_iff | (constructor <;> first | rfl | simp [ei, eb, es, ec, c58]) | simp [ei, eb, es, ec, c58])) ?_)
                                      first | exact trivial | exact rfl
                      · intro v2489 H
                        refine ob_ck H fun h2513 H => ?_
                        replace H := some_st H
                        refine ⟨(m2368, s2367 + 1), ⟨H, Nat.lt_succ_self _⟩, ⟨trivial⟩, ⟨rfl⟩, ?_⟩
                        repeat (refine And.intro (Ob.mk (by first | exact rfl | exact Iff.rfl | exact ⟨rfl, rfl⟩ | exact decide_eq_true_iff | (constructor <;> first | rfl | simp [ei, eb, es, ec, c58]) | simp [ei, eb, es, ec, c58])) ?_)
                        first | exact trivial | exact rfl
                    · replace H := some_st H
                      dsimp only [stp, sm] at H
                      refine ⟨(), ⟨H⟩, ⟨rfl⟩, ?_⟩
                      repeat (refine And.intro (Ob.mk (by first | exact rfl | exact Iff.rfl | exact ⟨rfl, rfl⟩ | exact decide_eq_true_iff | (constructor <;> first | rfl | simp [ei, eb, es, ec, c58]) | simp [ei, eb, es, ec, c58])) ?_)
                      first | exact trivial | exact rfl
                  · intro v2365 H
                    refine ob_ck H fun h2517 H => ?_
                    replace H := some_st H
                    refine ⟨(m1604, s1603 + 1), ⟨H, Nat.lt_succ_self _⟩, ⟨trivial⟩, ⟨rfl⟩, ?_⟩
                    repeat (refine And.intro (Ob.mk (by first | exact rfl | exact Iff.rfl | exact ⟨rfl, rfl⟩ | exact decide_eq_true_iff | (constructor <;> first | rfl | simp [ei, eb, es, ec, c58]) | simp [ei, eb, es, ec, c58])) ?_)
                    first | exact trivial | exact rfl
                · replace H := some_st H
                  dsimp only [stp, sm] at H
                  refine ⟨(), ⟨H⟩, ⟨rfl⟩, ?_⟩
                  repeat (refine And.intro (Ob.mk (by first | exact rfl | exact Iff.rfl | exact ⟨rfl, rfl⟩ | exact decide_eq_true_iff | (constructor <;> first | rfl | simp [ei, eb, es, ec, c58]) | simp [ei, eb, es, ec, c58])) ?_)
                  first | exact trivial | exact rfl
              · intro v1601 H
                obtain ⟨v2521, hv2522, H⟩ := call_st H
                refine ⟨v2521, ⟨hv2522⟩, ⟨trivial⟩, ?_⟩
                have hfin := fin_st H
                repeat (refine And.intro (Ob.mk (by first | (rw [← hfin] <;> first | exact rfl | exact Iff.rfl | exact ⟨rfl, rfl⟩ | exact decide_eq_true_iff | (constructor <;> first | rfl | simp [ei, eb, es, ec, c58]) | simp [ei, eb, es, ec, c58]) | first | exact rfl | exact Iff.rfl | exact ⟨rfl, rfl⟩ | exact decide_eq_true_iff | (constructor <;> first | rfl | simp [ei, eb, es, ec, c58]) | simp [ei, eb, es, ec, c58])) ?_)
                first | exact trivial | exact rfl

/-- placard/placardlaw16.LayoutPlaces -/
noncomputable def g10 (a0 : Int) (a1 : Int) (a2 : Int) (a3 : List (Int × Int × Int × Int)) : Option (Bool) :=
  jn (α := _) (β := List (Int × Int × Int × Int)) (fun k2533 =>
      if 65 < ((a3.length : Nat) : Int) then
        (
          ck (0 ≤ (0 : Int) ∧ (0 : Int) ≤ (65 : Int) ∧ (65 : Int) ≤ ((a3.length : Nat) : Int)) <|
          k2533 ((a3.drop (0 : Int).toNat).take ((65 : Int).toNat - (0 : Int).toNat))
        )
      else
        k2533 a3
  ) (fun v2532 =>
    (g40 a0 a1 a2 v2532).bind fun v2541 =>
    (g41 a0 a1 a2 v2532).bind fun v2543 =>
    (g42 v2541.1 v2543.1).bind fun v2558 =>
    if ¬ (v2558 = true) then
      some false
    else
      (
        if ¬ v2541.2 = v2543.2 then
          some false
        else
          (
            (g36).bind fun v2562 =>
            if ¬ (v2562 = true) then
              some false
            else
              (
                if ¬ v2541.2 = 0 then
                  some true
                else
                  (
                    (g37 a0 a1 v2532).bind fun v2567 =>
                    (g38 a0 a1 v2532).bind fun v2569 =>
                    if ¬ v2567.2 = 0 then
                      some false
                    else
                      (
                        if ¬ v2569.2 = 0 then
                          some false
                        else
                          (
                            if ¬ ((v2567.1.length : Nat) : Int) = ((v2541.1.length : Nat) : Int) then
                              some false
                            else
                              (
                                if ¬ ((v2569.1.length : Nat) : Int) = ((v2541.1.length : Nat) : Int) then
                                  some false
                                else
                                  (
                                    jn (α := _) (β := Int) (fun k2871 =>
                                        (loopO (σ := Int × Int) (ρ := (Unit) ⊕ (Int)) (fun s2872 =>
                                            if s2872.2 < ((v2541.1.length : Nat) : Int) then
                                              (
                                                ck (0 ≤ s2872.2 ∧ s2872.2 < ((v2569.1.length : Nat) : Int)) <|
                                                if ¬ ((v2569.1.getD s2872.2.toNat false) = true) then
                                                  (
                                                    ck (inR .i64 (s2872.2 + 1)) <|
                                                    some (.go (s2872.1, s2872.2 + 1))
                                                  )
                                                else
                                                  (
                                                    jn (α := _) (β := Bool) (fun k3009 =>
                                                        if 0 ≤ s2872.1 then
                                                          (
                                                            ck (0 ≤ s2872.2 ∧ s2872.2 < ((v2541.1.length : Nat) : Int)) <|
                                                            if ¬ (v2541.1.getD s2872.2.toNat 0) = s2872.1 then
                                                              k3009 true
                                                            else
                                                              (
                                                                ck (0 ≤ s2872.2 ∧ s2872.2 < ((v2541.1.length : Nat) : Int)) <|
                                                                if (v2541.1.getD s2872.2.toNat 0) < 0 then
                                                                  k3009 true
                                                                else
                                                                  (
                                                                    ck (0 ≤ s2872.2 ∧ s2872.2 < ((v2541.1.length : Nat) : Int)) <|
                                                                    ck (0 ≤ s2872.2 ∧ s2872.2 < ((v2567.1.length : Nat) : Int)) <|
                                                                    ck (inR .i64 ((v2541.1.getD s2872.2.toNat 0) + (v2567.1.getD s2872.2.toNat 0))) <|
                                                                    if a0 < ((v2541.1.getD s2872.2.toNat 0) + (v2567.1.getD s2872.2.toNat 0)) then
                                                                      k3009 true
                                                                    else
                                                                      (
                                                                        if s2872.1 < 0 then
                                                                          (
                                                                            if a2 = 0 then
                                                                              (
                                                                                ck (0 ≤ s2872.2 ∧ s2872.2 < ((v2541.1.length : Nat) : Int)) <|
                                                                                k3009 (decide (¬ (v2541.1.getD s2872.2.toNat 0) = 0))
                                                                              )
                                                                            else
                                                                              k3009 false
                                                                          )
                                                                        else
                                                                          k3009 false
                                                                      )
                                                                  )
                                                              )
                                                          )
                                                        else
                                                          (
                                                            ck (0 ≤ s2872.2 ∧ s2872.2 < ((v2541.1.length : Nat) : Int)) <|
                                                            if (v2541.1.getD s2872.2.toNat 0) < 0 then
                                                              k3009 true
                                                            else
                                                              (
                                                                ck (0 ≤ s2872.2 ∧ s2872.2 < ((v2541.1.length : Nat) : Int)) <|
                                                                ck (0 ≤ s2872.2 ∧ s2872.2 < ((v2567.1.length : Nat) : Int)) <|
                                                                ck (inR .i64 ((v2541.1.getD s2872.2.toNat 0) + (v2567.1.getD s2872.2.toNat 0))) <|
                                                                if a0 < ((v2541.1.getD s2872.2.toNat 0) + (v2567.1.getD s2872.2.toNat 0)) then
                                                                  k3009 true
                                                                else
                                                                  (
                                                                    if s2872.1 < 0 then
                                                                      (
                                                                        if a2 = 0 then
                                                                          (
                                                                            ck (0 ≤ s2872.2 ∧ s2872.2 < ((v2541.1.length : Nat) : Int)) <|
                                                                            k3009 (decide (¬ (v2541.1.getD s2872.2.toNat 0) = 0))
                                                                          )
                                                                        else
                                                                          k3009 false
                                                                      )
                                                                    else
                                                                      k3009 false
                                                                  )
                                                              )
                                                          )
                                                    ) (fun v3008 =>
                                                      if v3008 = true then
                                                        some (.out (.inl (())))
                                                      else
                                                        (
                                                          ck (0 ≤ s2872.2 ∧ s2872.2 < ((v2541.1.length : Nat) : Int)) <|
                                                          ck (0 ≤ s2872.2 ∧ s2872.2 < ((v2567.1.length : Nat) : Int)) <|
                                                          ck (inR .i64 ((v2541.1.getD s2872.2.toNat 0) + (v2567.1.getD s2872.2.toNat 0))) <|
                                                          ck (inR .i64 (((v2541.1.getD s2872.2.toNat 0) + (v2567.1.getD s2872.2.toNat 0)) + a1)) <|
                                                          ck (inR .i64 (s2872.2 + 1)) <|
                                                          some (.go (((v2541.1.getD s2872.2.toNat 0) + (v2567.1.getD s2872.2.toNat 0)) + a1, s2872.2 + 1))
                                                        )
                                                    )
                                                  )
                                              )
                                            else
                                              some (.out (.inr (s2872.1)))
                                          ) ((-1), 0)).bind fun o2982 =>
                                        sm o2982 (fun o3037 =>
                                            some false
                                          ) (fun o3038 =>
                                            k2871 o3038
                                          )
                                    ) (fun v2870 =>
                                      if v2870 < 0 then
                                        some true
                                      else
                                        (
                                          if ¬ a2 = 1 then
                                            some true
                                          else
                                            (
                                              ck (inR .i64 (v2870 - a1)) <|
                                              some (decide ((v2870 - a1) = a0))
                                            )
                                        )
                                    )
                                  )
                              )
                          )
                      )
                  )
              )
          )
      )
  )
noncomputable def k10 : Eng.CS := { f := 10, calm := true, more := 0, ι := Int × Int × Int × (List (Int × Int × Int × Int)) × Bool, ok := fun i => g10 i.1 i.2.1 i.2.2.1 i.2.2.2.1 = some i.2.2.2.2, rds := fun _ => [], args := fun i => [.w (.v (.int .i64 (i.1))), .w (.v (.int .i64 (i.2.1))), .w (.v (.int .i64 (i.2.2.1))), .sl 4 i.2.2.2.1.length (ec c58 i.2.2.2.1)], res := fun i => bS i.2.2.2.2 }
set_option maxRecDepth 8000 in
set_option maxHeartbeats 4000000 in
theorem k10_ok : CalmOk Try.prog k10 := by
  refine R.calmspec Try.func10 nm10 rfl ?_
  rintro ⟨a0, a1, a2, a3, r⟩ hok q _ args hargs
  match args, hargs with
  | [_, _, _, _], hargs =>
  obtain ⟨rfl, rfl, rfl, ⟨A3, cp3, rfl, hc3, _, hR3⟩, _⟩ := hargs
  refine ⟨envC [k36, k37, k38, k40, k41, k42] false [(10, 2), (10, 18), (10, 20)], 6, envC_ok (css_cons ⟨fun _ => k36_ok, fun h => (by cases h)⟩ (css_cons ⟨fun h => (by cases h), fun _ => k37_ok⟩ (css_cons ⟨fun h => (by cases h), fun _ => k38_ok⟩ (css_cons ⟨fun h => (by cases h), fun _ => k40_ok⟩ (css_cons ⟨fun h => (by cases h), fun _ => k41_ok⟩ (css_cons ⟨fun _ => k42_ok, fun h => (by cases h)⟩ (css_nil))))))), rfl, (by intro x hx; simp only [List.mem_cons, List.not_mem_nil, or_false] at hx; rcases hx with rfl | rfl | rfl | rfl <;> rfl), ?_⟩
  have H : Gives (g10 a0 a1 a2 a3) (fun a => a = r) := ⟨r, hok, rfl⟩
  unfold g10 at H
  clear hok
  refine R.cut_famX H 12 [0, 1, 2] [] (fun (v2532 : List (Int × Int × Int × Int)) (g : (Option Addr × Nat)) => [(3, .v (.slice ((g.1)) (v2532.length) ((g.2))))]) (fun (v2532 : List (Int × Int × Int × Int)) (g : (Option Addr × Nat)) => []) [] 0 (fun q (v2532 : List (Int × Int × Int × Int)) (g : (Option Addr × Nat)) => Reads q g.1 (ec c58 v2532) ∧ v2532.length ≤ g.2) (fun H => ?_)
  refine And.intro ?_ ?_
  · refine if_st H (fun h2534 H => ?_) (fun h2534 H => ?_)
    · refine ob_sl hc3 H fun h2535 H => ?_
      have hs2536 := sl_ec c58_len hR3 rfl hc3 h2535
      refine ⟨(((a3.drop (0 : Int).toNat).take ((65 : Int).toNat - (0 : Int).toNat)), (if cp3 = (0 : Int).toNat then A3 else A3.map (·.add ((0 : Int).toNat * 4)), cp3 - (0 : Int).toNat)), ⟨H, hs2536.1, (Nat.le_trans (Nat.le_of_eq (show _ = _ from hs2536.2.1)) hs2536.2.2)⟩, ⟨rfl⟩, ?_⟩
      repeat (refine And.intro (Ob.mk (by first | exact congrArg (fun m => Value.slice _ m _) (show _ = _ from hs2536.2.1) | first | exact rfl | exact Iff.rfl | exact ⟨rfl, rfl⟩ | exact decide_eq_true_iff | (constructor <;> first | rfl | simp [ei, eb, es, ec, c58]) | simp [ei, eb, es, ec, c58])) ?_)
      first | exact trivial | exact rfl
    · refine ⟨(a3, (A3, cp3)), ⟨H, hR3, hc3⟩, ⟨rfl⟩, ?_⟩
      repeat (refine And.intro (Ob.mk (by first | exact rfl | exact Iff.rfl | exact ⟨rfl, rfl⟩ | exact decide_eq_true_iff | (constructor <;> first | rfl | simp [ei, eb, es, ec, c58]) | simp [ei, eb, es, ec, c58])) ?_)
      first | exact trivial | exact rfl
  · rintro ⟨v2532, ⟨A2537, c2538⟩⟩ ⟨H, hR2539, hc2540⟩
    dsimp only at H hR2539 hc2540
    obtain ⟨v2541, hv2542, H⟩ := call_st H
    refine ⟨(a0, a1, a2, v2532, v2541), ⟨hv2542⟩, ⟨trivial⟩, ?_⟩
    refine And.intro ⟨rfl⟩ ?_
    refine And.intro ⟨rfl⟩ ?_
    refine And.intro ⟨rfl⟩ ?_
    refine And.intro ⟨rfl, hc2540, (ec_len c58_len).trans (congrArg (· * 4) (show _ = _ from rfl)), hR2539⟩ ?_
    obtain ⟨v2543, hv2544, H⟩ := call_st H
    refine ⟨(a0, a1, a2, v2532, v2543), ⟨hv2544⟩, ⟨trivial⟩, ?_⟩
    refine And.intro ⟨rfl⟩ ?_
    refine And.intro ⟨rfl⟩ ?_
    refine And.intro ⟨rfl⟩ ?_
    refine And.intro ⟨rfl, hc2540, (ec_len c58_len).trans (congrArg (· * 4) (show _ = _ from rfl)), hR2539⟩ ?_
    obtain ⟨v2558, hv2559, H⟩ := call_st H
    refine ⟨(v2541.1, v2543.1, v2558), ⟨hv2559⟩, ⟨trivial⟩, ?_⟩
    refine And.intro ⟨by first | rfl | (simp; done), by first | rfl | (simp [ei, eb, es, ec, c58]; done) | (simp only [ei, eb, es, ec, c58, List.map_append, List.nil_append, List.append_assoc]; rfl)⟩ ?_
    refine And.intro ⟨by first | rfl | (simp; done), by first | rfl | (simp [ei, eb, es, ec, c58]; done) | (simp only [ei, eb, es, ec, c58, List.map_append, List.nil_append, List.append_assoc]; rfl)⟩ ?_
    refine if_st H (fun h2560 H => ?_) (fun h2560 H => ?_)
    · have hfin := fin_st H
      repeat (refine And.intro (Ob.mk (by first | (rw [← hfin] <;> first | exact rfl | exact Iff.rfl | exact ⟨rfl, rfl⟩ | exact decide_eq_true_iff | (constructor <;> first | rfl | simp [ei, eb, es, ec, c58]) | simp [ei, eb, es, ec, c58]) | first | exact rfl | exact Iff.rfl | exact ⟨rfl, rfl⟩ | exact decide_eq_true_iff | (constructor <;> first | rfl | simp [ei, eb, es, ec, c58]) | simp [ei, eb, es, ec, c58])) ?_)
      first | exact trivial | exact rfl
    · refine if_st H (fun h2561 H => ?_) (fun h2561 H => ?_)
      · have hfin := fin_st H
        repeat (refine And.intro (Ob.mk (by first | (rw [← hfin] <;> first | exact rfl | exact Iff.rfl | exact ⟨rfl, rfl⟩ | exact decide_eq_true_iff | (constructor <;> first | rfl | simp [ei, eb, es, ec, c58]) | simp [ei, eb, es, ec, c58]) | first | exact rfl | exact Iff.rfl | exact ⟨rfl, rfl⟩ | exact decide_eq_true_iff | (constructor <;> first | rfl | simp [ei, eb, es, ec, c58]) | simp [ei, eb, es, ec, c58])) ?_)
        first | exact trivial | exact rfl
      · obtain ⟨v2562, hv2563, H⟩ := call_st H
        refine ⟨v2562, ⟨hv2563⟩, ⟨trivial⟩, ?_⟩
        refine if_st H (fun h2564 H => ?_) (fun h2564 H => ?_)
        · have hfin := fin_st H
          repeat (refine And.intro (Ob.mk (by first | (rw [← hfin] <;> first | exact rfl | exact Iff.rfl | exact ⟨rfl, rfl⟩ | exact decide_eq_true_iff | (constructor <;> first | rfl | simp [ei, eb, es, ec, c58]) | simp [ei, eb, es, ec, c58]) | first | exact rfl | exact Iff.rfl | exact ⟨rfl, rfl⟩ | exact decide_eq_true_iff | (constructor <;> first | rfl | simp [ei, eb, es, ec, c58]) | simp [ei, eb, es, ec, c58])) ?_)
          first | exact trivial | exact rfl
        · refine if_st H (fun h2566 H => ?_) (fun h2566 H => ?_)
          · have hfin := fin_st H
            repeat (refine And.intro (Ob.mk (by first | (rw [← hfin] <;> first | exact rfl | exact Iff.rfl | exact ⟨rfl, rfl⟩ | exact decide_eq_true_iff | (constructor <;> first | rfl | simp [ei, eb, es, ec, c58]) | simp [ei, eb, es, ec, c58]) | first | exact rfl | exact Iff.rfl | exact ⟨rfl, rfl⟩ | exact decide_eq_true_iff | (constructor <;> first | rfl | simp [ei, eb, es, ec, c58]) | simp [ei, eb, es, ec, c58])) ?_)
            first | exact trivial | exact rfl
          · obtain ⟨v2567, hv2568, H⟩ := call_st H
            refine ⟨(a0, a1, v2532, v2567), ⟨hv2568⟩, ⟨trivial⟩, ?_⟩
            refine And.intro ⟨rfl⟩ ?_
            refine And.intro ⟨rfl⟩ ?_
            refine And.intro ⟨rfl, hc2540, (ec_len c58_len).trans (congrArg (· * 4) (show _ = _ from rfl)), hR2539⟩ ?_
            obtain ⟨v2569, hv2570, H⟩ := call_st H
            refine ⟨(a0, a1, v2532, v2569), ⟨hv2570⟩, ⟨trivial⟩, ?_⟩
            refine And.intro ⟨rfl⟩ ?_
            refine And.intro ⟨rfl⟩ ?_
            refine And.intro ⟨rfl, hc2540, (ec_len c58_len).trans (congrArg (· * 4) (show _ = _ from rfl)), hR2539⟩ ?_
            refine if_st H (fun h2578 H => ?_) (fun h2578 H => ?_)
            · have hfin := fin_st H
              repeat (refine And.intro (Ob.mk (by first | (rw [← hfin] <;> first | exact rfl | exact Iff.rfl | exact ⟨rfl, rfl⟩ | exact decide_eq_true_iff | (constructor <;> first | rfl | simp [ei, eb, es, ec, c58]) | simp [ei, eb, es, ec, c58]) | first | exact rfl | exact Iff.rfl | exact ⟨rfl, rfl⟩ | exact decide_eq_true_iff | (constructor <;> first | rfl | simp [ei, eb, es, ec, c58]) | simp [ei, eb, es, ec, c58])) ?_)
              first | exact trivial | exact rfl
            · refine if_st H (fun h2579 H => ?_) (fun h2579 H => ?_)
              · have hfin := fin_st H
                repeat (refine And.intro (Ob.mk (by first | (rw [← hfin] <;> first | exact rfl | exact Iff.rfl | exact ⟨rfl, rfl⟩ | exact decide_eq_true_iff | (constructor <;> first | rfl | simp [ei, eb, es, ec, c58]) | simp [ei, eb, es, ec, c58]) | first | exact rfl | exact Iff.rfl | exact ⟨rfl, rfl⟩ | exact decide_eq_true_iff | (constructor <;> first | rfl | simp [ei, eb, es, ec, c58]) | simp [ei, eb, es, ec, c58])) ?_)
                first | exact trivial | exact rfl
              · refine if_st H (fun h2580 H => ?_) (fun h2580 H => ?_)
                · have hfin := fin_st H
                  repeat (refine And.intro (Ob.mk (by first | (rw [← hfin] <;> first | exact rfl | exact Iff.rfl | exact ⟨rfl, rfl⟩ | exact decide_eq_true_iff | (constructor <;> first | rfl | simp [ei, eb, es, ec, c58]) | simp [ei, eb, es, ec, c58]) | first | exact rfl | exact Iff.rfl | exact ⟨rfl, rfl⟩ | exact decide_eq_true_iff | (constructor <;> first | rfl | simp [ei, eb, es, ec, c58]) | simp [ei, eb, es, ec, c58])) ?_)
                  first | exact trivial | exact rfl
                · refine if_st H (fun h2581 H => ?_) (fun h2581 H => ?_)
                  · have hfin := fin_st H
                    repeat (refine And.intro (Ob.mk (by first | (rw [← hfin] <;> first | exact rfl | exact Iff.rfl | exact ⟨rfl, rfl⟩ | exact decide_eq_true_iff | (constructor <;> first | rfl | simp [ei, eb, es, ec, c58]) | simp [ei, eb, es, ec, c58]) | first | exact rfl | exact Iff.rfl | exact ⟨rfl, rfl⟩ | exact decide_eq_true_iff | (constructor <;> first | rfl | simp [ei, eb, es, ec, c58]) | simp [ei, eb, es, ec, c58])) ?_)
                    first | exact trivial | exact rfl
                  · refine R.cut_fam H 97 [0, 1, 2] [] (fun v2870 => [(17, .v (.int .i64 (v2870)))]) (fun v2870 => []) [(22, .arr 3 1 (v2541.1.length) (ei .i64 (v2541.1))), (33, .arr 3 1 (v2543.1.length) (ei .i64 (v2543.1))), (58, .arr 3 1 (v2567.1.length) (ei .i64 (v2567.1))), (68, .arr 4 1 (v2569.1.length) (eb (v2569.1)))] 0 (fun H => ?_)
                    refine And.intro ?_ ?_
                    · refine R.loop_fam (bind_st H) [0, 1, 2, 9, 13, 15] [] (fun _ s2872 => [(17, .v (.int .i64 (s2872.1))), (18, .v (.int .i64 (s2872.2)))]) (fun _ s2872 => []) 0 (fun n3039 H => ?_)
                      refine ⟨(n3039, _), ⟨H⟩, ⟨trivial⟩, ?_⟩
                      repeat (refine And.intro (Ob.mk (by first | exact rfl | exact Iff.rfl | exact ⟨rfl, rfl⟩ | exact decide_eq_true_iff | (constructor <;> first | rfl | simp [ei, eb, es, ec, c58]) | simp [ei, eb, es, ec, c58])) ?_)
                      rintro ⟨m0, s2872⟩ H _
                      obtain ⟨m2873, hm0, H⟩ := IG_succ H
                      dsimp only at hm0
                      subst hm0
                      try dsimp only at H
                      refine if_st H (fun h2983 H => ?_) (fun h2983 H => ?_)
                      · refine ob_ck H fun h2984 H => ?_
                        refine ld_bool (e := v2569.1.getD s2872.2.toNat false) (own_get (ys := eb v2569.1) (by first | rfl | simp [ei, eb, es, ec, c58]) (eb_get (l := v2569.1) (by first | exact tn h2984 | (have := tn h2984; simp at this ⊢; omega) | (have := tn h2984; simp; omega)))) ?_
                        refine if_st H (fun h2985 H => ?_) (fun h2985 H => ?_)
                        · refine ob_ck H fun h2986 H => ?_
                          replace H := some_st H
                          refine ⟨(m2873, (s2872.1, s2872.2 + 1)), ⟨H, Nat.lt_succ_self _⟩, ⟨trivial⟩, ⟨rfl⟩, ?_⟩
                          repeat (refine And.intro (Ob.mk (by first | exact rfl | exact Iff.rfl | exact ⟨rfl, rfl⟩ | exact decide_eq_true_iff | (constructor <;> first | rfl | simp [ei, eb, es, ec, c58]) | simp [ei, eb, es, ec, c58])) ?_)
                          first | exact trivial | exact rfl
                        · refine R.cut_fam H 146 [0, 1, 2, 9, 13, 15, 18] [] (fun v3008 => [(141, bS v3008)]) (fun v3008 => []) [(22, .arr 3 1 (v2541.1.length) (ei .i64 (v2541.1))), (33, .arr 3 1 (v2543.1.length) (ei .i64 (v2543.1))), (58, .arr 3 1 (v2567.1.length) (ei .i64 (v2567.1))), (68, .arr 4 1 (v2569.1.length) (eb (v2569.1)))] 0 (fun H => ?_)
                          refine And.intro ?_ ?_
                          · refine And.intro ⟨by kernel_rfl⟩ ?_
                            refine if_st H (fun h3010 H => ?_) (fun h3010 H => ?_)
                            · refine ob_ck H fun h3011 H => ?_
                              refine ld_int (e := v2541.1.getD s2872.2.toNat 0) (own_get (ys := ei .i64 v2541.1) (by first | rfl | simp [ei, eb, es, ec, c58]) (ei_get (l := v2541.1) (by first | exact tn h3011 | (have := tn h3011; simp at this ⊢; omega) | (have := tn h3011; simp; omega)))) ?_
                              refine if_st H (fun h3012 H => ?_) (fun h3012 H => ?_)
                              · refine ⟨true, ⟨H⟩, ⟨rfl⟩, ?_⟩
                                repeat (refine And.intro (Ob.mk (by first | exact rfl | exact Iff.rfl | exact ⟨rfl, rfl⟩ | exact decide_eq_true_iff | (constructor <;> first | rfl | simp [ei, eb, es, ec, c58]) | simp [ei, eb, es, ec, c58])) ?_)
                                first | exact trivial | exact rfl
                              · refine ob_ck H fun h3013 H => ?_
                                refine ld_int (e := v2541.1.getD s2872.2.toNat 0) (own_get (ys := ei .i64 v2541.1) (by first | rfl | simp [ei, eb, es, ec, c58]) (ei_get (l := v2541.1) (by first | exact tn h3013 | (have := tn h3013; simp at this ⊢; omega) | (have := tn h3013; simp; omega)))) ?_
                                refine if_st H (fun h3014 H => ?_) (fun h3014 H => ?_)
                                · refine ⟨true, ⟨H⟩, ⟨rfl⟩, ?_⟩
                                  repeat (refine And.intro (Ob.mk (by first | exact rfl | exact Iff.rfl | exact ⟨rfl, rfl⟩ | exact decide_eq_true_iff | (constructor <;> first | rfl | simp [ei, eb, es, ec, c58]) | simp [ei, eb, es, ec, c58])) ?_)
                                  first | exact trivial | exact rfl
                                · refine ob_ck H fun h3015 H => ?_
                                  refine ld_int (e := v2541.1.getD s2872.2.toNat 0) (own_get (ys := ei .i64 v2541.1) (by first | rfl | simp [ei, eb, es, ec, c58]) (ei_get (l := v2541.1) (by first | exact tn h3015 | (have := tn h3015; simp at this ⊢; omega) | (have := tn h3015; simp; omega)))) ?_
                                  refine ob_ck H fun h3016 H => ?_
                                  refine ld_int (e := v2567.1.getD s2872.2.toNat 0) (own_get (ys := ei .i64 v2567.1) (by first | rfl | simp [ei, eb, es, ec, c58]) (ei_get (l := v2567.1) (by first | exact tn h3016 | (have := tn h3016; simp at this ⊢; omega) | (have := tn h3016; simp; omega)))) ?_
                                  refine ob_ck H fun h3017 H => ?_
                                  refine if_st H (fun h3018 H => ?_) (fun h3018 H => ?_)
                                  · refine ⟨true, ⟨H⟩, ⟨rfl⟩, ?_⟩
                                    repeat (refine And.intro (Ob.mk (by first | exact rfl | exact Iff.rfl | exact ⟨rfl, rfl⟩ | exact decide_eq_true_iff | (constructor <;> first | rfl | simp [ei, eb, es, ec, c58]) | simp [ei, eb, es, ec, c58])) ?_)
                                    first | exact trivial | exact rfl
                                  · refine if_st H (fun h3019 H => ?_) (fun h3019 H => ?_)
                                    · refine if_st H (fun h3020 H => ?_) (fun h3020 H => ?_)
                                      · refine ob_ck H fun h3021 H => ?_
                                        refine ld_int (e := v2541.1.getD s2872.2.toNat 0) (own_get (ys := ei .i64 v2541.1) (by first | rfl | simp [ei, eb, es, ec, c58]) (ei_get (l := v2541.1) (by first | exact tn h3021 | (have := tn h3021; simp at this ⊢; omega) | (have := tn h3021; simp; omega)))) ?_
                                        refine ⟨(decide (¬ (v2541.1.getD s2872.2.toNat 0) = 0)), ⟨H⟩, ⟨rfl⟩, ?_⟩
                                        repeat (refine And.intro (Ob.mk (by first | exact rfl | exact Iff.rfl | exact ⟨rfl, rfl⟩ | exact decide_eq_true_iff | (constructor <;> first | rfl | simp [ei, eb, es, ec, c58]) | simp [ei, eb, es, ec, c58])) ?_)
                                        first | exact trivial | exact rfl
                                      · refine ⟨false, ⟨H⟩, ⟨rfl⟩, ?_⟩
                                        repeat (refine And.intro (Ob.mk (by first | exact rfl | exact Iff.rfl | exact ⟨rfl, rfl⟩ | exact decide_eq_true_iff | (constructor <;> first | rfl | simp [ei, eb, es, ec, c58]) | simp [ei, eb, es, ec, c58])) ?_)
                                        first | exact trivial | exact rfl
                                    · refine ⟨false, ⟨H⟩, ⟨rfl⟩, ?_⟩
                                      repeat (refine And.intro (Ob.mk (by first | exact rfl | exact Iff.rfl | exact ⟨rfl, rfl⟩ | exact decide_eq_true_iff | (constructor <;> first | rfl | simp [ei, eb, es, ec, c58]) | simp [ei, eb, es, ec, c58])) ?_)
                                      first | exact trivial | exact rfl
                            · refine ob_ck H fun h3022 H => ?_
                              refine ld_int (e := v2541.1.getD s2872.2.toNat 0) (own_get (ys := ei .i64 v2541.1) (by first | rfl | simp [ei, eb, es, ec, c58]) (ei_get (l := v2541.1) (by first | exact tn h3022 | (have := tn h3022; simp at this ⊢; omega) | (have := tn h3022; simp; omega)))) ?_
                              refine if_st H (fun h3023 H => ?_) (fun h3023 H => ?_)
                              · refine ⟨true, ⟨H⟩, ⟨rfl⟩, ?_⟩
                                repeat (refine And.intro (Ob.mk (by first | exact rfl | exact Iff.rfl | exact ⟨rfl, rfl⟩ | exact decide_eq_true_iff | (constructor <;> first | rfl | simp [ei, eb, es, ec, c58]) | simp [ei, eb, es, ec, c58])) ?_)
                                first | exact trivial | exact rfl
                              · refine ob_ck H fun h3024 H => ?_
                                refine ld_int (e := v2541.1.getD s2872.2.toNat 0) (own_get (ys := ei .i64 v2541.1) (by first | rfl | simp [ei, eb, es, ec, c58]) (ei_get (l := v2541.1) (by first | exact tn h3024 | (have := tn h3024; simp at this ⊢; omega) | (have := tn h3024; simp; omega)))) ?_
                                refine ob_ck H fun h3025 H => ?_
                                refine ld_int (e := v2567.1.getD s2872.2.toNat 0) (own_get (ys := ei .i64 v2567.1) (by first | rfl | simp [ei, eb, es, ec, c58]) (ei_get (l := v2567.1) (by first | exact tn h3025 | (have := tn h3025; simp at this ⊢; omega) | (have := tn h3025; simp; omega)))) ?_
                                refine ob_ck H fun h3026 H => ?_
                                refine if_st H (fun h3027 H => ?_) (fun h3027 H => ?_)
                                · refine ⟨true, ⟨H⟩, ⟨rfl⟩, ?_⟩
                                  repeat (refine And.intro (Ob.mk (by first | exact rfl | exact Iff.rfl | exact ⟨rfl, rfl⟩ | exact decide_eq_true_iff | (constructor <;> first | rfl | simp [ei, eb, es, ec, c58]) | simp [ei, eb, es, ec, c58])) ?_)
                                  first | exact trivial | exact rfl
                                · refine if_st H (fun h3028 H => ?_) (fun h3028 H => ?_)
                                  · refine if_st H (fun h3029 H => ?_) (fun h3029 H => ?_)
                                    · refine ob_ck H fun h3030 H => ?_
                                      refine ld_int (e := v2541.1.getD s2872.2.toNat 0) (own_get (ys := ei .i64 v2541.1) (by first | rfl | simp [ei, eb, es, ec, c58]) (ei_get (l := v2541.1) (by first | exact tn h3030 | (have := tn h3030; simp at this ⊢; omega) | (have := tn h3030; simp; omega)))) ?_
                                      refine ⟨(decide (¬ (v2541.1.getD s2872.2.toNat 0) = 0)), ⟨H⟩, ⟨rfl⟩, ?_⟩
                                      repeat (refine And.intro (Ob.mk (by first | exact rfl | exact Iff.rfl | exact ⟨rfl, rfl⟩ | exact decide_eq_true_iff | (constructor <;> first | rfl | simp [ei, eb, es, ec, c58]) | simp [ei, eb, es, ec, c58])) ?_)
                                      first | exact trivial | exact rfl
                                    · refine ⟨false, ⟨H⟩, ⟨rfl⟩, ?_⟩
                                      repeat (refine And.intro (Ob.mk (by first | exact rfl | exact Iff.rfl | exact ⟨rfl, rfl⟩ | exact decide_eq_true_iff | (constructor <;> first | rfl | simp [ei, eb, es, ec, c58]) | simp [ei, eb, es, ec, c58])) ?_)
                                      first | exact trivial | exact rfl
                                  · refine ⟨false, ⟨H⟩, ⟨rfl⟩, ?_⟩
                                    repeat (refine And.intro (Ob.mk (by first | exact rfl | exact Iff.rfl | exact ⟨rfl, rfl⟩ | exact decide_eq_true_iff | (constructor <;> first | rfl | simp [ei, eb, es, ec, c58]) | simp [ei, eb, es, ec, c58])) ?_)
                                    first | exact trivial | exact rfl
                          · intro v3008 H
                            refine if_st H (fun h3031 H => ?_) (fun h3031 H => ?_)
                            · replace H := some_st H
                              dsimp only [stp, sm] at H
                              have hfin := fin_st H
                              repeat (refine And.intro (Ob.mk (by first | (rw [← hfin] <;> first | exact rfl | exact Iff.rfl | exact ⟨rfl, rfl⟩ | exact decide_eq_true_iff | (constructor <;> first | rfl | simp [ei, eb, es, ec, c58]) | simp [ei, eb, es, ec, c58]) | first | exact rfl | exact Iff.rfl | exact ⟨rfl, rfl⟩ | exact decide_eq_true_iff | (constructor <;> first | rfl | simp [ei, eb, es, ec, c58]) | simp [ei, eb, es, ec, c58])) ?_)
                              first | exact trivial | exact rfl
                            · refine And.intro ⟨by kernel_rfl⟩ ?_
                              refine ob_ck H fun h3032 H => ?_
                              refine ld_int (e := v2541.1.getD s2872.2.toNat 0) (own_get (ys := ei .i64 v2541.1) (by first | rfl | simp [ei, eb, es, ec, c58]) (ei_get (l := v2541.1) (by first | exact tn h3032 | (have := tn h3032; simp at this ⊢; omega) | (have := tn h3032; simp; omega)))) ?_
                              refine ob_ck H fun h3033 H => ?_
                              refine ld_int (e := v2567.1.getD s2872.2.toNat 0) (own_get (ys := ei .i64 v2567.1) (by first | rfl | simp [ei, eb, es, ec, c58]) (ei_get (l := v2567.1) (by first | exact tn h3033 | (have := tn h3033; simp at this ⊢; omega) | (have := tn h3033; simp; omega)))) ?_
                              refine ob_ck H fun h3034 H => ?_
                              refine ob_ck H fun h3035 H => ?_
                              refine ob_ck H fun h3036 H => ?_
                              replace H := some_st H
                              refine ⟨(m2873, (((v2541.1.getD s2872.2.toNat 0) + (v2567.1.getD s2872.2.toNat 0)) + a1, s2872.2 + 1)), ⟨H, Nat.lt_succ_self _⟩, ⟨trivial⟩, ⟨rfl⟩, ?_⟩
                              repeat (refine And.intro (Ob.mk (by first | exact rfl | exact Iff.rfl | exact ⟨rfl, rfl⟩ | exact decide_eq_true_iff | (constructor <;> first | rfl | simp [ei, eb, es, ec, c58]) | simp [ei, eb, es, ec, c58])) ?_)
                              first | exact trivial | exact rfl
                      · replace H := some_st H
                        dsimp only [stp, sm] at H
                        refine ⟨s2872.1, ⟨H⟩, ⟨rfl⟩, ?_⟩
                        repeat (refine And.intro (Ob.mk (by first | exact rfl | exact Iff.rfl | exact ⟨rfl, rfl⟩ | exact decide_eq_true_iff | (constructor <;> first | rfl | simp [ei, eb, es, ec, c58]) | simp [ei, eb, es, ec, c58])) ?_)
                        first | exact trivial | exact rfl
                    · intro v2870 H
                      refine if_st H (fun h3040 H => ?_) (fun h3040 H => ?_)
                      · have hfin := fin_st H
                        repeat (refine And.intro (Ob.mk (by first | (rw [← hfin] <;> first | exact rfl | exact Iff.rfl | exact ⟨rfl, rfl⟩ | exact decide_eq_true_iff | (constructor <;> first | rfl | simp [ei, eb, es, ec, c58]) | simp [ei, eb, es, ec, c58]) | first | exact rfl | exact Iff.rfl | exact ⟨rfl, rfl⟩ | exact decide_eq_true_iff | (constructor <;> first | rfl | simp [ei, eb, es, ec, c58]) | simp [ei, eb, es, ec, c58])) ?_)
                        first | exact trivial | exact rfl
                      · refine if_st H (fun h3041 H => ?_) (fun h3041 H => ?_)
                        · have hfin := fin_st H
                          repeat (refine And.intro (Ob.mk (by first | (rw [← hfin] <;> first | exact rfl | exact Iff.rfl | exact ⟨rfl, rfl⟩ | exact decide_eq_true_iff | (constructor <;> first | rfl | simp [ei, eb, es, ec, c58]) | simp [ei, eb, es, ec, c58]) | first | exact rfl | exact Iff.rfl | exact ⟨rfl, rfl⟩ | exact decide_eq_true_iff | (constructor <;> first | rfl | simp [ei, eb, es, ec, c58]) | simp [ei, eb, es, ec, c58])) ?_)
                          first | exact trivial | exact rfl
                        · refine ob_ck H fun h3042 H => ?_
                          have hfin := fin_st H
                          repeat (refine And.intro (Ob.mk (by first | (rw [← hfin] <;> first | exact rfl | exact Iff.rfl | exact ⟨rfl, rfl⟩ | exact decide_eq_true_iff | (constructor <;> first | rfl | simp [ei, eb, es, ec, c58]) | simp [ei, eb, es, ec, c58]) | first | exact rfl | exact Iff.rfl | exact ⟨rfl, rfl⟩ | exact decide_eq_true_iff | (constructor <;> first | rfl | simp [ei, eb, es, ec, c58]) | simp [ei, eb, es, ec, c58])) ?_)
                          first | exact trivial | exact rfl

end Go.Proofs.Ytcnofjjiepcpjaa
