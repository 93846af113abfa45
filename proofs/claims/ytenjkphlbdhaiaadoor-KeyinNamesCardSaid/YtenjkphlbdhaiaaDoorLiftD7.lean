/-
  Functions of the program, lifted: each with its walk. Printed by lift.py.
  Nothing here is trusted.
-/
import Derived.Test.YtenjkphlbdhaiaaDoorLiftD5
set_option linter.unusedVariables false
set_option linter.unusedSimpArgs false
namespace Go.Proofs.YtenjkphlbdhaiaaDoor
open Go Go.Eng

theorem mo1_LiftD7 {p q : Prop} (k : q) (h : p := by first | exact rfl | exact Iff.rfl | exact ⟨rfl, rfl⟩ | exact decide_eq_true_iff | (constructor <;> first | exact rfl | (simp only [ei, eb, es, ec, c51, gmin, gmax, List.map_append, List.flatMap_append, List.nil_append, List.append_nil, List.append_assoc]; done) | omega | (simp only [List.nil_append, List.length_append, List.length_cons, List.length_nil]; omega) | (simp [ei, eb, es, ec, c51, gmin, gmax]; done)) | exact rfl | (simp only [ei, eb, es, ec, c51, gmin, gmax, List.map_append, List.flatMap_append, List.nil_append, List.append_nil, List.append_assoc]; done) | omega | (simp only [List.nil_append, List.length_append, List.length_cons, List.length_nil]; omega) | (simp [ei, eb, es, ec, c51, gmin, gmax]; done) | simp [ei, eb, es, ec, c51, gmin, gmax]) : Ob p ∧ q := ⟨⟨h⟩, k⟩
theorem mf1_LiftD7 {p q : Prop} (k : q) (h : p := by first | (rw [← hfin] <;> first | exact rfl | exact Iff.rfl | exact ⟨rfl, rfl⟩ | exact decide_eq_true_iff | (constructor <;> first | exact rfl | (simp only [ei, eb, es, ec, c51, gmin, gmax, List.map_append, List.flatMap_append, List.nil_append, List.append_nil, List.append_assoc]; done) | omega | (simp only [List.nil_append, List.length_append, List.length_cons, List.length_nil]; omega) | (simp [ei, eb, es, ec, c51, gmin, gmax]; done)) | exact rfl | (simp only [ei, eb, es, ec, c51, gmin, gmax, List.map_append, List.flatMap_append, List.nil_append, List.append_nil, List.append_assoc]; done) | omega | (simp only [List.nil_append, List.length_append, List.length_cons, List.length_nil]; omega) | (simp [ei, eb, es, ec, c51, gmin, gmax]; done) | simp [ei, eb, es, ec, c51, gmin, gmax]) | first | exact rfl | exact Iff.rfl | exact ⟨rfl, rfl⟩ | exact decide_eq_true_iff | (constructor <;> first | exact rfl | (simp only [ei, eb, es, ec, c51, gmin, gmax, List.map_append, List.flatMap_append, List.nil_append, List.append_nil, List.append_assoc]; done) | omega | (simp only [List.nil_append, List.length_append, List.length_cons, List.length_nil]; omega) | (simp [ei, eb, es, ec, c51, gmin, gmax]; done)) | exact rfl | (simp only [ei, eb, es, ec, c51, gmin, gmax, List.map_append, List.flatMap_append, List.nil_append, List.append_nil, List.append_assoc]; done) | omega | (simp only [List.nil_append, List.length_append, List.length_cons, List.length_nil]; omega) | (simp [ei, eb, es, ec, c51, gmin, gmax]; done) | simp [ei, eb, es, ec, c51, gmin, gmax]) : Ob p ∧ q := ⟨⟨h⟩, k⟩
/-- placard/placardlaw07.KeyinNames -/
noncomputable def g6 (a0 : (Int × ByteArray × Int × Bool × Bool × Bool)) : Option (Bool) :=
  jn (α := _) (β := Unit) (fun k187 =>
      (loopO (σ := Int) (ρ := (Unit) ⊕ (Unit)) (fun s190 =>
          if s190 < ((2 : Nat) : Int) then
            (
              ck (0 ≤ s190 ∧ s190 < ((2 : Nat) : Int)) <|
              if s190 = ((0 : Nat) : Int) then
                (
                  ck (inR .i64 (((0 : Nat) : Int) + ((0 : Nat) : Int))) <|
                  ck (inR .i64 ((((0 : Nat) : Int) + ((0 : Nat) : Int)) + ((0 : Nat) : Int))) <|
                  ck (inR .i64 (((((0 : Nat) : Int) + ((0 : Nat) : Int)) + ((0 : Nat) : Int)) + 0)) <|
                  ck (inR .i64 ((((((0 : Nat) : Int) + ((0 : Nat) : Int)) + ((0 : Nat) : Int)) + 0) + 0)) <|
                  if ¬ ((((((0 : Nat) : Int) + ((0 : Nat) : Int)) + ((0 : Nat) : Int)) + 0) + 0) = 0 then
                    some (.out (.inl (())))
                  else
                    (
                      ck (inR .i64 (s190 + 1)) <|
                      some (.go (s190 + 1))
                    )
                )
              else
                (
                  if s190 = ((1 : Nat) : Int) then
                    (
                      ck (inR .i64 (((0 : Nat) : Int) + ((0 : Nat) : Int))) <|
                      ck (inR .i64 ((((0 : Nat) : Int) + ((0 : Nat) : Int)) + ((0 : Nat) : Int))) <|
                      ck (inR .i64 (((((0 : Nat) : Int) + ((0 : Nat) : Int)) + ((0 : Nat) : Int)) + 0)) <|
                      ck (inR .i64 ((((((0 : Nat) : Int) + ((0 : Nat) : Int)) + ((0 : Nat) : Int)) + 0) + 0)) <|
                      if ¬ ((((((0 : Nat) : Int) + ((0 : Nat) : Int)) + ((0 : Nat) : Int)) + 0) + 0) = 0 then
                        some (.out (.inl (())))
                      else
                        (
                          ck (inR .i64 (s190 + 1)) <|
                          some (.go (s190 + 1))
                        )
                    )
                  else
                    none
                )
            )
          else
            some (.out (.inr (())))
        ) 0).bind fun o272 =>
      sm o272 (fun o313 =>
          some false
        ) (fun o314 =>
          k187 ()
        )
  ) (fun v186 =>
    (g21 (a0.1, a0.2.1, a0.2.2.1, a0.2.2.2.1, a0.2.2.2.2.1, a0.2.2.2.2.2)).bind fun v316 =>
    (g22 (a0.1, a0.2.1, a0.2.2.1, a0.2.2.2.1, a0.2.2.2.2.1, a0.2.2.2.2.2)).bind fun v318 =>
    if v316.data.toList = v318.data.toList then
      (
        (g12).bind fun v321 =>
        some v321
      )
    else
      some false
  )
noncomputable def k6 : Eng.CS := { f := 6, calm := true, more := 0, ι := (Int × ByteArray × Int × Bool × Bool × Bool) × Bool, ok := fun i => g6 i.1 = some i.2, rds := fun _ => [], args := fun i => [.w (.agg [.v (.int .i64 (i.1.1)), .v (.string (i.1.2.1)), .v (.int .i64 (i.1.2.2.1)), bS i.1.2.2.2.1, bS i.1.2.2.2.2.1, bS i.1.2.2.2.2.2])], res := fun i => bS i.2 }
set_option maxRecDepth 8000 in
set_option maxHeartbeats 4000000 in
theorem k6_ok : CalmOk Tryd.prog k6 := by
  refine R.calmspec Tryd.func6 nm6 rfl ?_
  rintro ⟨a0, r⟩ hok q _ args hargs
  match args, hargs with
  | [_], hargs =>
  obtain ⟨rfl, _⟩ := hargs
  refine ⟨envC [k12, k21, k22] false [(6, 9)], 6, envC_ok (css_cons ⟨fun _ => k12_ok, fun h => (by cases h)⟩ (css_cons ⟨fun _ => k21_ok, fun h => (by cases h)⟩ (css_cons ⟨fun _ => k22_ok, fun h => (by cases h)⟩ (css_nil)))), rfl, (by intro x hx; simp only [List.mem_cons, List.not_mem_nil, or_false] at hx; rcases hx with rfl <;> rfl), ?_⟩
  have H : Gives (g6 a0) (fun a => a = r) := ⟨r, hok, rfl⟩
  unfold g6 at H
  clear hok
  refine R.cut_famG H 12 [1] [] [] (fun v186 => []) (fun v186 => []) [(0, .cells 51 [.v (.int .i64 (a0.1)), .v (.string (a0.2.1)), .v (.int .i64 (a0.2.2.1)), bS a0.2.2.2.1, bS a0.2.2.2.2.1, bS a0.2.2.2.2.2])] 0 (fun H => ?_)
  refine And.intro ?_ ?_
  · refine R.loop_famG (bind_st H) [1, 11, 12] [] [] (fun _ s190 => [(13, .v (.int .i64 (s190)))]) (fun _ s190 => []) 0 (fun n315 H => ?_)
    refine ⟨(n315, _), ⟨H⟩, ⟨trivial⟩, ?_⟩
    repeat refine mo1_LiftD7 ?_
    rintro q189 hq188 ⟨m0, s190⟩ H _
    obtain ⟨m191, hm0, H⟩ := IG_succ H
    dsimp only at hm0
    subst hm0
    try dsimp only at H
    refine if_st H (fun h273 H => ?_) (fun h273 H => ?_)
    · refine ob_ck H fun h274 H => ?_
      replace H := ix_in H
      refine ix_st (fun hc => by omega) H (fun h275 H => ?_) (fun H => ?_)
      · refine And.intro ⟨by first | decide | omega | (simp; done)⟩ ?_
        intro q276 A277 c278 hq279 hc280 hR281
        replace hR281 : Reads q276 A277 (ei .u8 ([97])) := Eq.mp (congrArg (Reads q276 A277) (by first | exact rfl | (simp only [ei, eb, es, ec, c51, gmin, gmax, List.map_append, List.flatMap_append, List.nil_append, List.append_nil, List.append_assoc]; done))) hR281
        refine And.intro ⟨by first | decide | omega | (simp; done)⟩ ?_
        intro q282 A283 c284 hq285 hc286 hR287
        replace hR287 : Reads q282 A283 (ei .u8 ([97])) := Eq.mp (congrArg (Reads q282 A283) (by first | exact rfl | (simp only [ei, eb, es, ec, c51, gmin, gmax, List.map_append, List.flatMap_append, List.nil_append, List.append_nil, List.append_assoc]; done))) hR287
        refine ob_ck H fun h288 H => ?_
        refine ob_ck H fun h289 H => ?_
        refine ob_ck H fun h290 H => ?_
        refine ob_ck H fun h291 H => ?_
        refine if_st H (fun h292 H => ?_) (fun h292 H => ?_)
        · replace H := some_st H
          dsimp only [stp, sm] at H
          have hfin := fin_st H
          repeat refine mf1_LiftD7 ?_
          first | exact trivial | exact rfl
        · refine ob_ck H fun h293 H => ?_
          replace H := some_st H
          refine ⟨(m191, s190 + 1), ⟨H, Nat.lt_succ_self _⟩, ⟨trivial⟩, ⟨fun _ _ _ h => (hq285 _ _ _ (hq279 _ _ _ (hq188 _ _ _ h)))⟩, ?_⟩
          repeat refine mo1_LiftD7 ?_
          first | exact trivial | exact rfl
      · refine ix_st (fun hc => by omega) H (fun h294 H => ?_) (fun H => ?_)
        · refine And.intro ⟨by first | decide | omega | (simp; done)⟩ ?_
          intro q295 A296 c297 hq298 hc299 hR300
          replace hR300 : Reads q295 A296 (ei .u8 ([97])) := Eq.mp (congrArg (Reads q295 A296) (by first | exact rfl | (simp only [ei, eb, es, ec, c51, gmin, gmax, List.map_append, List.flatMap_append, List.nil_append, List.append_nil, List.append_assoc]; done))) hR300
          refine And.intro ⟨by first | decide | omega | (simp; done)⟩ ?_
          intro q301 A302 c303 hq304 hc305 hR306
          replace hR306 : Reads q301 A302 (ei .u8 ([97])) := Eq.mp (congrArg (Reads q301 A302) (by first | exact rfl | (simp only [ei, eb, es, ec, c51, gmin, gmax, List.map_append, List.flatMap_append, List.nil_append, List.append_nil, List.append_assoc]; done))) hR306
          refine ob_ck H fun h307 H => ?_
          refine ob_ck H fun h308 H => ?_
          refine ob_ck H fun h309 H => ?_
          refine ob_ck H fun h310 H => ?_
          refine if_st H (fun h311 H => ?_) (fun h311 H => ?_)
          · replace H := some_st H
            dsimp only [stp, sm] at H
            have hfin := fin_st H
            repeat refine mf1_LiftD7 ?_
            first | exact trivial | exact rfl
          · refine ob_ck H fun h312 H => ?_
            replace H := some_st H
            refine ⟨(m191, s190 + 1), ⟨H, Nat.lt_succ_self _⟩, ⟨trivial⟩, ⟨fun _ _ _ h => (hq304 _ _ _ (hq298 _ _ _ (hq188 _ _ _ h)))⟩, ?_⟩
            repeat refine mo1_LiftD7 ?_
            first | exact trivial | exact rfl
        · exact trivial
    · replace H := some_st H
      dsimp only [stp, sm] at H
      refine ⟨(), ⟨H⟩, ⟨fun _ _ _ h => (hq188 _ _ _ h)⟩, ?_⟩
      repeat refine mo1_LiftD7 ?_
      first | exact trivial | exact rfl
  · intro q185 hq184 v186 H
    refine And.intro ⟨by kernel_rfl⟩ ?_
    obtain ⟨v316, hv317, H⟩ := call_st H
    refine ⟨((a0.1, a0.2.1, a0.2.2.1, a0.2.2.2.1, a0.2.2.2.2.1, a0.2.2.2.2.2), v316), ⟨hv317⟩, ⟨trivial⟩, ?_⟩
    refine mo1_LiftD7 ?_
    refine mo1_LiftD7 ?_
    refine mo1_LiftD7 ?_
    refine mo1_LiftD7 ?_
    refine mo1_LiftD7 ?_
    refine mo1_LiftD7 ?_
    obtain ⟨v318, hv319, H⟩ := call_st H
    refine ⟨((a0.1, a0.2.1, a0.2.2.1, a0.2.2.2.1, a0.2.2.2.2.1, a0.2.2.2.2.2), v318), ⟨hv319⟩, ⟨trivial⟩, ?_⟩
    refine mo1_LiftD7 ?_
    refine mo1_LiftD7 ?_
    refine mo1_LiftD7 ?_
    refine mo1_LiftD7 ?_
    refine mo1_LiftD7 ?_
    refine mo1_LiftD7 ?_
    refine if_st H (fun h320 H => ?_) (fun h320 H => ?_)
    · obtain ⟨v321, hv322, H⟩ := call_st H
      refine ⟨v321, ⟨hv322⟩, ⟨trivial⟩, ?_⟩
      have hfin := fin_st H
      repeat refine mf1_LiftD7 ?_
      first | exact trivial | exact rfl
    · have hfin := fin_st H
      repeat refine mf1_LiftD7 ?_
      first | exact trivial | exact rfl

end Go.Proofs.YtenjkphlbdhaiaaDoor
