/-
  Functions of the program, lifted: each with its walk. Printed by lift.py.
  Nothing here is trusted.
-/
import Derived.Test.YtcnofjjiepcpjaaLiftR2
set_option linter.unusedVariables false
set_option linter.unusedSimpArgs false
namespace Go.Proofs.Ytcnofjjiepcpjaa
open Go Go.Eng

/-- placard/runes.Cut -/
noncomputable def g30 (a0 : List Int) : Option (List Int × List Int) :=
  jn (α := _) (β := Int) (fun k44 =>
      ck (inR .i64 (((a0.length : Nat) : Int) - 3)) <|
      (loopO (σ := Int) (ρ := Int) (fun s48 =>
          if s48 < ((a0.length : Nat) : Int) then
            (
              ck (0 ≤ s48 ∧ s48 ≤ ((a0.length : Nat) : Int) ∧ ((a0.length : Nat) : Int) ≤ ((a0.length : Nat) : Int)) <|
              (g15 ((a0.drop s48.toNat).take (((a0.length : Nat) : Int).toNat - s48.toNat))).bind fun v74 =>
              if v74.2.2 = true then
                some (.out s48)
              else
                (
                  ck (inR .i64 (s48 + 1)) <|
                  some (.go (s48 + 1))
                )
            )
          else
            some (.out ((a0.length : Nat) : Int))
        ) (gmax 0 (((a0.length : Nat) : Int) - 3))).bind fun o68 =>
        k44 o68
  ) (fun v43 =>
    ck (0 ≤ (0 : Int) ∧ (0 : Int) ≤ v43 ∧ v43 ≤ ((a0.length : Nat) : Int)) <|
    ck ((((a0.drop (0 : Int).toNat).take (v43.toNat - (0 : Int).toNat)).length) * 1 ≤ 140737488355328) <|
    ck (0 ≤ v43 ∧ v43 ≤ ((a0.length : Nat) : Int) ∧ ((a0.length : Nat) : Int) ≤ ((a0.length : Nat) : Int)) <|
    ck ((((a0.drop v43.toNat).take (((a0.length : Nat) : Int).toNat - v43.toNat)).length) * 1 ≤ 140737488355328) <|
    some (((a0.drop (0 : Int).toNat).take (v43.toNat - (0 : Int).toNat)), ((a0.drop v43.toNat).take (((a0.length : Nat) : Int).toNat - v43.toNat)))
  )
noncomputable def k30 : Eng.CS := { f := 30, calm := false, more := 2, ι := (List Int) × (List Int × List Int), ok := fun i => g30 i.1 = some i.2, rds := fun _ => [], args := fun i => [.sl 1 i.1.length (ei .u8 i.1)], res := fun i => .tup [.own 0, .own 1], L' := fun i => [(0, .arr 5 1 i.2.1.length (ei .u8 i.2.1)), (1, .arr 5 1 i.2.2.length (ei .u8 i.2.2))], rn := [(0, 0, 5, 1), (1, 0, 5, 1)] }
set_option maxRecDepth 8000 in
set_option maxHeartbeats 4000000 in
theorem k30_ok : CSOk Try.prog k30 := by
  refine R.cspec Try.func30 nm30 rfl ?_
  rintro ⟨a0, r⟩ hok q _ args hargs
  match args, hargs with
  | [_], hargs =>
  obtain ⟨⟨A0, cp0, rfl, hc0, _, hR0⟩, _⟩ := hargs
  refine ⟨envC [k15] false [(30, 8)], 6, envC_ok (css_cons ⟨fun _ => k15_ok, fun h => (by cases h)⟩ (css_nil)), ?_⟩
  have H : Gives (g30 a0) (fun a => a = r) := ⟨r, hok, rfl⟩
  unfold g30 at H
  clear hok
  refine R.cut_fam H 30 [0, 2, 3] [] (fun v43 => [(4, .v (.int .i64 (v43)))]) (fun v43 => []) [] 0 (fun H => ?_)
  refine And.intro ?_ ?_
  · refine ob_ck H fun h45 H => ?_
    refine R.loop_fam (bind_st H) [0, 2, 3, 4] [] (fun _ s48 => [(5, .v (.int .i64 (s48)))]) (fun _ s48 => []) 0 (fun n78 H => ?_)
    refine ⟨(n78, _), ⟨H⟩, ⟨trivial⟩, ?_⟩
    repeat (refine And.intro (Ob.mk (by first | exact rfl | exact Iff.rfl | exact ⟨rfl, rfl⟩ | exact decide_eq_true_iff | (refine ⟨?_, ?_⟩ <;> first | exact rfl | (simp only [ei, eb, es, ec, gmin, gmax, List.map_append, List.flatMap_append, List.nil_append, List.append_nil, List.append_assoc]; done) | omega | (simp only [List.nil_append, List.length_append, List.length_cons, List.length_nil]; omega) | (simp [ei, eb, es, ec, gmin, gmax]; done)) | (constructor <;> first | exact rfl | (simp only [ei, eb, es, ec, gmin, gmax, List.map_append, List.flatMap_append, List.nil_append, List.append_nil, List.append_assoc]; done) | omega | (simp only [List.nil_append, List.length_append, List.length_cons, List.length_nil]; omega) | (simp [ei, eb, es, ec, gmin, gmax]; done)) | exact rfl | (simp only [ei, eb, es, ec, gmin, gmax, List.map_append, List.flatMap_append, List.nil_append, List.append_nil, List.append_assoc]; done) | omega | (simp only [List.nil_append, List.length_append, List.length_cons, List.length_nil]; omega) | (simp [ei, eb, es, ec, gmin, gmax]; done) | simp [ei, eb, es, ec, gmin, gmax])) ?_)
    rintro ⟨m0, s48⟩ H _
    obtain ⟨m49, hm0, H⟩ := IG_succ H
    dsimp only at hm0
    subst hm0
    try dsimp only at H
    refine if_st H (fun h69 H => ?_) (fun h69 H => ?_)
    · refine ob_sl hc0 H fun h70 H => ?_
      have hs71 := sl_ei hR0 rfl hc0 h70
      intro n72 hn73
      obtain rfl : n72 = ((a0.drop s48.toNat).take (((a0.length : Nat) : Int).toNat - s48.toNat)).length := hn73.trans hs71.2.1.symm
      obtain ⟨v74, hv75, H⟩ := call_st H
      refine ⟨(((a0.drop s48.toNat).take (((a0.length : Nat) : Int).toNat - s48.toNat)), v74), ⟨hv75⟩, ⟨trivial⟩, ?_⟩
      refine And.intro ⟨rfl, (Nat.le_trans (Nat.le_of_eq hs71.2.1) hs71.2.2), ei_len.trans ((show _ = _ from rfl).trans (Nat.mul_one _).symm), hs71.1⟩ ?_
      refine if_st H (fun h76 H => ?_) (fun h76 H => ?_)
      · replace H := some_st H
        dsimp only [stp, sm] at H
        refine ⟨s48, ⟨H⟩, ⟨rfl⟩, ?_⟩
        repeat (refine And.intro (Ob.mk (by first | exact rfl | exact Iff.rfl | exact ⟨rfl, rfl⟩ | exact decide_eq_true_iff | (refine ⟨?_, ?_⟩ <;> first | exact rfl | (simp only [ei, eb, es, ec, gmin, gmax, List.map_append, List.flatMap_append, List.nil_append, List.append_nil, List.append_assoc]; done) | omega | (simp only [List.nil_append, List.length_append, List.length_cons, List.length_nil]; omega) | (simp [ei, eb, es, ec, gmin, gmax]; done)) | (constructor <;> first | exact rfl | (simp only [ei, eb, es, ec, gmin, gmax, List.map_append, List.flatMap_append, List.nil_append, List.append_nil, List.append_assoc]; done) | omega | (simp only [List.nil_append, List.length_append, List.length_cons, List.length_nil]; omega) | (simp [ei, eb, es, ec, gmin, gmax]; done)) | exact rfl | (simp only [ei, eb, es, ec, gmin, gmax, List.map_append, List.flatMap_append, List.nil_append, List.append_nil, List.append_assoc]; done) | omega | (simp only [List.nil_append, List.length_append, List.length_cons, List.length_nil]; omega) | (simp [ei, eb, es, ec, gmin, gmax]; done) | simp [ei, eb, es, ec, gmin, gmax])) ?_)
        first | exact trivial | exact rfl
      · refine ob_ck H fun h77 H => ?_
        replace H := some_st H
        refine ⟨(m49, s48 + 1), ⟨H, Nat.lt_succ_self _⟩, ⟨trivial⟩, ⟨rfl⟩, ?_⟩
        repeat (refine And.intro (Ob.mk (by first | exact rfl | exact Iff.rfl | exact ⟨rfl, rfl⟩ | exact decide_eq_true_iff | (refine ⟨?_, ?_⟩ <;> first | exact rfl | (simp only [ei, eb, es, ec, gmin, gmax, List.map_append, List.flatMap_append, List.nil_append, List.append_nil, List.append_assoc]; done) | omega | (simp only [List.nil_append, List.length_append, List.length_cons, List.length_nil]; omega) | (simp [ei, eb, es, ec, gmin, gmax]; done)) | (constructor <;> first | exact rfl | (simp only [ei, eb, es, ec, gmin, gmax, List.map_append, List.flatMap_append, List.nil_append, List.append_nil, List.append_assoc]; done) | omega | (simp only [List.nil_append, List.length_append, List.length_cons, List.length_nil]; omega) | (simp [ei, eb, es, ec, gmin, gmax]; done)) | exact rfl | (simp only [ei, eb, es, ec, gmin, gmax, List.map_append, List.flatMap_append, List.nil_append, List.append_nil, List.append_assoc]; done) | omega | (simp only [List.nil_append, List.length_append, List.length_cons, List.length_nil]; omega) | (simp [ei, eb, es, ec, gmin, gmax]; done) | simp [ei, eb, es, ec, gmin, gmax])) ?_)
        first | exact trivial | exact rfl
    · replace H := some_st H
      dsimp only [stp, sm] at H
      refine ⟨((a0.length : Nat) : Int), ⟨H⟩, ⟨rfl⟩, ?_⟩
      repeat (refine And.intro (Ob.mk (by first | exact rfl | exact Iff.rfl | exact ⟨rfl, rfl⟩ | exact decide_eq_true_iff | (refine ⟨?_, ?_⟩ <;> first | exact rfl | (simp only [ei, eb, es, ec, gmin, gmax, List.map_append, List.flatMap_append, List.nil_append, List.append_nil, List.append_assoc]; done) | omega | (simp only [List.nil_append, List.length_append, List.length_cons, List.length_nil]; omega) | (simp [ei, eb, es, ec, gmin, gmax]; done)) | (constructor <;> first | exact rfl | (simp only [ei, eb, es, ec, gmin, gmax, List.map_append, List.flatMap_append, List.nil_append, List.append_nil, List.append_assoc]; done) | omega | (simp only [List.nil_append, List.length_append, List.length_cons, List.length_nil]; omega) | (simp [ei, eb, es, ec, gmin, gmax]; done)) | exact rfl | (simp only [ei, eb, es, ec, gmin, gmax, List.map_append, List.flatMap_append, List.nil_append, List.append_nil, List.append_assoc]; done) | omega | (simp only [List.nil_append, List.length_append, List.length_cons, List.length_nil]; omega) | (simp [ei, eb, es, ec, gmin, gmax]; done) | simp [ei, eb, es, ec, gmin, gmax])) ?_)
      first | exact trivial | exact rfl
  · intro v43 H
    refine ob_sl hc0 H fun h79 H => ?_
    have hs80 := sl_ei hR0 rfl hc0 h79
    intro n81 hn82
    obtain rfl : n81 = ((a0.drop (0 : Int).toNat).take (v43.toNat - (0 : Int).toNat)).length := hn82.trans hs80.2.1.symm
    refine rs_st hs80.1 (ei_len.trans (Nat.mul_one _).symm) ?_
    refine ob_app0 (by decide) (by first | exact ei_one | ((repeat (refine List.forall_mem_cons.2 ⟨rfl, ?_⟩)); intro y hy; cases hy; done) | (intro y hy; simp [ei, eb, es, ec] at hy; (first | (rcases hy with rfl | hy) | subst hy | skip); all_goals first | rfl | simp_all [Value.oneCell'])) H fun h83 H => ?_
    intro n84 hn85
    obtain rfl : n84 = ((a0.drop (0 : Int).toNat).take (v43.toNat - (0 : Int).toNat)).length := hn85.trans (by first | rfl | simp)
    refine ob_sl hc0 H fun h86 H => ?_
    have hs87 := sl_ei hR0 rfl hc0 h86
    intro n88 hn89
    obtain rfl : n88 = ((a0.drop v43.toNat).take (((a0.length : Nat) : Int).toNat - v43.toNat)).length := hn89.trans hs87.2.1.symm
    refine rs_st hs87.1 (ei_len.trans (Nat.mul_one _).symm) ?_
    refine ob_app0 (by decide) (by first | exact ei_one | ((repeat (refine List.forall_mem_cons.2 ⟨rfl, ?_⟩)); intro y hy; cases hy; done) | (intro y hy; simp [ei, eb, es, ec] at hy; (first | (rcases hy with rfl | hy) | subst hy | skip); all_goals first | rfl | simp_all [Value.oneCell'])) H fun h90 H => ?_
    intro n91 hn92
    obtain rfl : n91 = ((a0.drop v43.toNat).take (((a0.length : Nat) : Int).toNat - v43.toNat)).length := hn92.trans (by first | rfl | simp)
    have hfin := fin_st H
    repeat (refine And.intro (Ob.mk (by first | (rw [← hfin] <;> first | exact rfl | exact Iff.rfl | exact ⟨rfl, rfl⟩ | exact decide_eq_true_iff | (refine ⟨?_, ?_⟩ <;> first | exact rfl | (simp only [ei, eb, es, ec, gmin, gmax, List.map_append, List.flatMap_append, List.nil_append, List.append_nil, List.append_assoc]; done) | omega | (simp only [List.nil_append, List.length_append, List.length_cons, List.length_nil]; omega) | (simp [ei, eb, es, ec, gmin, gmax]; done)) | (constructor <;> first | exact rfl | (simp only [ei, eb, es, ec, gmin, gmax, List.map_append, List.flatMap_append, List.nil_append, List.append_nil, List.append_assoc]; done) | omega | (simp only [List.nil_append, List.length_append, List.length_cons, List.length_nil]; omega) | (simp [ei, eb, es, ec, gmin, gmax]; done)) | exact rfl | (simp only [ei, eb, es, ec, gmin, gmax, List.map_append, List.flatMap_append, List.nil_append, List.append_nil, List.append_assoc]; done) | omega | (simp only [List.nil_append, List.length_append, List.length_cons, List.length_nil]; omega) | (simp [ei, eb, es, ec, gmin, gmax]; done) | simp [ei, eb, es, ec, gmin, gmax]) | first | exact rfl | exact Iff.rfl | exact ⟨rfl, rfl⟩ | exact decide_eq_true_iff | (refine ⟨?_, ?_⟩ <;> first | exact rfl | (simp only [ei, eb, es, ec, gmin, gmax, List.map_append, List.flatMap_append, List.nil_append, List.append_nil, List.append_assoc]; done) | omega | (simp only [List.nil_append, List.length_append, List.length_cons, List.length_nil]; omega) | (simp [ei, eb, es, ec, gmin, gmax]; done)) | (constructor <;> first | exact rfl | (simp only [ei, eb, es, ec, gmin, gmax, List.map_append, List.flatMap_append, List.nil_append, List.append_nil, List.append_assoc]; done) | omega | (simp only [List.nil_append, List.length_append, List.length_cons, List.length_nil]; omega) | (simp [ei, eb, es, ec, gmin, gmax]; done)) | exact rfl | (simp only [ei, eb, es, ec, gmin, gmax, List.map_append, List.flatMap_append, List.nil_append, List.append_nil, List.append_assoc]; done) | omega | (simp only [List.nil_append, List.length_append, List.length_cons, List.length_nil]; omega) | (simp [ei, eb, es, ec, gmin, gmax]; done) | simp [ei, eb, es, ec, gmin, gmax])) ?_)
    first | exact trivial | exact rfl

def c22 (p : ((Option Addr × Nat) × List Int)) : List Value := [.slice p.1.1 p.2.length p.1.2]
theorem c22_len : ∀ a, (c22 a).length = 1 := fun _ => rfl
theorem c22_one : ∀ a, ∀ y ∈ c22 a, y.oneCell' = true := by intro a y hy; simp only [c22, List.mem_cons, List.not_mem_nil, or_false] at hy; rcases hy with rfl <;> rfl
def P22 (q : PH) (p : ((Option Addr × Nat) × List Int)) : Prop := Reads q p.1.1 (ei .u8 p.2) ∧ p.2.length ≤ p.1.2
def R22 (p : ((Option Addr × Nat) × List Int)) : List (Option Addr × List Value) := [(p.1.1, ei .u8 p.2)]
def cap22 (p : ((Option Addr × Nat) × List Int)) : Prop := p.2.length ≤ p.1.2
theorem P22.mono {q q' : PH} (h : q.le q') {p : ((Option Addr × Nat) × List Int)} (hp : P22 q p) : P22 q' p := ⟨Reads.mono h hp.1, hp.2⟩
theorem P22.of {q : PH} {l : List (((Option Addr × Nat) × List Int))} (h : Eng.RdsOk q (l.flatMap R22)) (hc : ∀ p ∈ l, cap22 p) : ∀ p ∈ l, P22 q p := fun p hp => ⟨rds_mem (x := (p.1.1, ei .u8 p.2)) h (List.mem_flatMap.2 ⟨p, hp, by simp [R22]⟩), (hc p hp)⟩
/-- placard/placardlaw01.RunesPieces -/
noncomputable def g6 (a0 : List ((Option Addr × Nat) × List Int)) : Option (Bool) :=
  jn (α := _) (β := List Int × List Int × ByteArray) (fun k1634 =>
      (loopO (σ := List Int × List Int × ByteArray × Int) (ρ := (Unit) ⊕ (List Int × List Int × ByteArray)) (fun s1637 =>
          if s1637.2.2.2 < ((a0.length : Nat) : Int) then
            (
              if s1637.2.2.2 < 20 then
                (
                  ck (0 ≤ s1637.2.2.2 ∧ s1637.2.2.2 < ((a0.length : Nat) : Int)) <|
                  ck (0 ≤ s1637.2.2.2 ∧ s1637.2.2.2 < ((a0.length : Nat) : Int)) <|
                  ck (0 ≤ (0 : Int) ∧ (0 : Int) ≤ gmin (((a0.getD s1637.2.2.2.toNat default).2.length : Nat) : Int) 30 ∧ gmin (((a0.getD s1637.2.2.2.toNat default).2.length : Nat) : Int) 30 ≤ (((a0.getD s1637.2.2.2.toNat default).2.length : Nat) : Int)) <|
                  ck ((s1637.1.length + (((((a0.getD s1637.2.2.2.toNat default).2).drop (0 : Int).toNat).take ((gmin (((a0.getD s1637.2.2.2.toNat default).2.length : Nat) : Int) 30).toNat - (0 : Int).toNat)).length)) * 1 ≤ 140737488355328) <|
                  ck ((0 + s1637.2.1.length) * 1 ≤ 140737488355328) <|
                  ck ((([] ++ s1637.2.1).length + (((((a0.getD s1637.2.2.2.toNat default).2).drop (0 : Int).toNat).take ((gmin (((a0.getD s1637.2.2.2.toNat default).2.length : Nat) : Int) 30).toNat - (0 : Int).toNat)).length)) * 1 ≤ 140737488355328) <|
                  jn (α := _) (β := List Int × List Int × List Int) (fun k2350 =>
                      (g30 (([] ++ s1637.2.1) ++ ((((a0.getD s1637.2.2.2.toNat default).2).drop (0 : Int).toNat).take ((gmin (((a0.getD s1637.2.2.2.toNat default).2.length : Nat) : Int) 30).toNat - (0 : Int).toNat)))).bind fun v2351 =>
                      k2350 ((([] ++ s1637.2.1) ++ ((((a0.getD s1637.2.2.2.toNat default).2).drop (0 : Int).toNat).take ((gmin (((a0.getD s1637.2.2.2.toNat default).2.length : Nat) : Int) 30).toNat - (0 : Int).toNat))), v2351.1, v2351.2)
                  ) (fun v2349 =>
                    jn (α := _) (β := List Int × List Int) (fun k2502 =>
                        jn (α := _) (β := Unit) (fun k2572 =>
                            ck (inR .i64 (((v2349.1.length : Nat) : Int) - 3)) <|
                            (loopO (σ := Int) (ρ := (List Int × List Int) ⊕ (Unit)) (fun s2576 =>
                                if s2576 < ((v2349.1.length : Nat) : Int) then
                                  (
                                    ck (0 ≤ s2576 ∧ s2576 ≤ ((v2349.1.length : Nat) : Int) ∧ ((v2349.1.length : Nat) : Int) ≤ ((v2349.1.length : Nat) : Int)) <|
                                    (g16 ((v2349.1.drop s2576.toNat).take (((v2349.1.length : Nat) : Int).toNat - s2576.toNat))).bind fun v2618 =>
                                    if v2618.2.2 = true then
                                      (
                                        ck (0 ≤ (0 : Int) ∧ (0 : Int) ≤ s2576 ∧ s2576 ≤ ((v2349.1.length : Nat) : Int)) <|
                                        ck (0 ≤ s2576 ∧ s2576 ≤ ((v2349.1.length : Nat) : Int) ∧ ((v2349.1.length : Nat) : Int) ≤ ((v2349.1.length : Nat) : Int)) <|
                                        some (.out (.inl ((((v2349.1.drop (0 : Int).toNat).take (s2576.toNat - (0 : Int).toNat)), ((v2349.1.drop s2576.toNat).take (((v2349.1.length : Nat) : Int).toNat - s2576.toNat))))))
                                      )
                                    else
                                      (
                                        ck (inR .i64 (s2576 + 1)) <|
                                        some (.go (s2576 + 1))
                                      )
                                  )
                                else
                                  some (.out (.inr (())))
                              ) (gmax 0 (((v2349.1.length : Nat) : Int) - 3))).bind fun o2612 =>
                            sm o2612 (fun o2630 =>
                                k2502 (o2630.1, o2630.2)
                              ) (fun o2639 =>
                                k2572 ()
                              )
                        ) (fun v2571 =>
                          k2502 (v2349.1, ([] : List Int))
                        )
                    ) (fun v2501 =>
                      ck (isBytes v2349.2.1) <|
                      ck (isBytes v2501.1) <|
                      if ¬ ((strOf v2349.2.1).data.toList = (strOf v2501.1).data.toList) then
                        some (.out (.inl (())))
                      else
                        (
                          ck (isBytes v2349.2.2) <|
                          ck (isBytes v2501.2) <|
                          if ¬ ((strOf v2349.2.2).data.toList = (strOf v2501.2).data.toList) then
                            some (.out (.inl (())))
                          else
                            (
                              if 3 < ((v2349.2.2.length : Nat) : Int) then
                                some (.out (.inl (())))
                              else
                                (
                                  (g32 v2349.2.1).bind fun v2656 =>
                                  ck (s1637.2.2.1.size + v2656.size ≤ 9223372036854775807) <|
                                  ck ((0 + v2349.2.2.length) * 1 ≤ 140737488355328) <|
                                  ck (inR .i64 (s1637.2.2.2 + 1)) <|
                                  some (.go ((s1637.1 ++ ((((a0.getD s1637.2.2.2.toNat default).2).drop (0 : Int).toNat).take ((gmin (((a0.getD s1637.2.2.2.toNat default).2.length : Nat) : Int) 30).toNat - (0 : Int).toNat))), ([] ++ v2349.2.2), s1637.2.2.1 ++ v2656, s1637.2.2.2 + 1))
                                )
                            )
                        )
                    )
                  )
                )
              else
                some (.out (.inr ((s1637.1, s1637.2.1, s1637.2.2.1))))
            )
          else
            some (.out (.inr ((s1637.1, s1637.2.1, s1637.2.2.1))))
        ) ([], [], (lit []), 0)).bind fun o2321 =>
      sm o2321 (fun o2663 =>
          some false
        ) (fun o2664 =>
          k1634 (o2664.1, o2664.2.1, o2664.2.2)
        )
  ) (fun v1633 =>
    if 0 < ((v1633.2.1.length : Nat) : Int) then
      (
        (g20).bind fun v2667 =>
        some v2667
      )
    else
      (
        (g32 v1633.1).bind fun v2669 =>
        if v1633.2.2.data.toList = v2669.data.toList then
          (
            (g20).bind fun v2672 =>
            some v2672
          )
        else
          some false
      )
  )
noncomputable def k6 : Eng.CS := { f := 6, calm := true, more := 0, ι := (List ((Option Addr × Nat) × List Int)) × Bool, ok := fun i => g6 i.1 = some i.2 ∧ (∀ p ∈ i.1, cap22 p), rds := fun i => (i.1).flatMap R22, args := fun i => [.sl 1 i.1.length (ec c22 i.1)], res := fun i => bS i.2 }
set_option maxRecDepth 8000 in
set_option maxHeartbeats 4000000 in
theorem k6_ok : CalmOk Try.prog k6 := by
  refine R.calmspec Try.func6 nm6 rfl ?_
  rintro ⟨a0, r⟩ ⟨hok, hcap⟩ q hrds args hargs
  have hin0 : ∀ p ∈ a0, P22 q p := P22.of hrds hcap
  match args, hargs with
  | [_], hargs =>
  obtain ⟨⟨A0, cp0, rfl, hc0, _, hR0⟩, _⟩ := hargs
  refine ⟨envC [k16, k20, k30, k32] false [(6, 10), (6, 11), (6, 15), (31, 7)], 6, envC_ok (css_cons ⟨fun _ => k16_ok, fun h => (by cases h)⟩ (css_cons ⟨fun _ => k20_ok, fun h => (by cases h)⟩ (css_cons ⟨fun h => (by cases h), fun _ => k30_ok⟩ (css_cons ⟨fun _ => k32_ok, fun h => (by cases h)⟩ (css_nil))))), rfl, (by intro x hx; simp only [List.mem_cons, List.not_mem_nil, or_false] at hx; rcases hx with rfl <;> rfl), ?_⟩
  have H : Gives (g6 a0) (fun a => a = r) := ⟨r, hok, rfl⟩
  unfold g6 at H
  clear hok
  refine R.cut_famG H 21 [] [] [] (fun v1633 => [(3, .own 21), (4, .own 22), (5, .v (.string (v1633.2.2)))]) (fun v1633 => [(21, .arr 5 1 (v1633.1.length) (ei .u8 (v1633.1))), (22, .arr 5 1 (v1633.2.1.length) (ei .u8 (v1633.2.1)))]) [] 2 (fun H => ?_)
  refine And.intro ?_ ?_
  · refine R.loop_famG (bind_st H) [0] [(3, 0, 5, 1), (4, 0, 5, 1)] [] (fun _ s1637 => [(3, .own 7), (4, .own 8), (5, .v (.string (s1637.2.2.1))), (6, .v (.int .i64 (s1637.2.2.2)))]) (fun _ s1637 => [(7, .arr 5 1 (s1637.1.length) (ei .u8 (s1637.1))), (8, .arr 5 1 (s1637.2.1.length) (ei .u8 (s1637.2.1)))]) 2 (fun n2665 H => ?_)
    refine ⟨(n2665, _), ⟨H⟩, ⟨trivial⟩, ?_⟩
    repeat (refine And.intro (Ob.mk (by first | exact rfl | exact Iff.rfl | exact ⟨rfl, rfl⟩ | exact decide_eq_true_iff | (refine ⟨?_, ?_⟩ <;> first | exact rfl | (simp only [ei, eb, es, ec, c22, gmin, gmax, List.map_append, List.flatMap_append, List.nil_append, List.append_nil, List.append_assoc]; done) | omega | (simp only [List.nil_append, List.length_append, List.length_cons, List.length_nil]; omega) | (simp [ei, eb, es, ec, c22, gmin, gmax]; done)) | (constructor <;> first | exact rfl | (simp only [ei, eb, es, ec, c22, gmin, gmax, List.map_append, List.flatMap_append, List.nil_append, List.append_nil, List.append_assoc]; done) | omega | (simp only [List.nil_append, List.length_append, List.length_cons, List.length_nil]; omega) | (simp [ei, eb, es, ec, c22, gmin, gmax]; done)) | exact rfl | (simp only [ei, eb, es, ec, c22, gmin, gmax, List.map_append, List.flatMap_append, List.nil_append, List.append_nil, List.append_assoc]; done) | omega | (simp only [List.nil_append, List.length_append, List.length_cons, List.length_nil]; omega) | (simp [ei, eb, es, ec, c22, gmin, gmax]; done) | simp [ei, eb, es, ec, c22, gmin, gmax])) ?_)
    rintro q1636 hq1635 ⟨m0, s1637⟩ H _
    obtain ⟨m1638, hm0, H⟩ := IG_succ H
    dsimp only at hm0
    subst hm0
    try dsimp only at H
    refine if_st H (fun h2322 H => ?_) (fun h2322 H => ?_)
    · refine if_st H (fun h2323 H => ?_) (fun h2323 H => ?_)
      · refine And.intro ⟨by kernel_rfl⟩ ?_
        refine ob_ix (Reads.mono hq1635 hR0) (fun h => ec0 c22_len (by decide) h) H fun h2324 H => ?_
        refine ld_sl (A := (a0.getD s1637.2.2.2.toNat default).1.1) (n := (a0.getD s1637.2.2.2.toNat default).2.length) (c := (a0.getD s1637.2.2.2.toNat default).1.2) (rd_get (Reads.mono hq1635 hR0) ((ec_get1 (i := s1637.2.2.2.toNat) c22_len (tn h2324)).trans rfl)) ?_
        refine ob_ix (Reads.mono hq1635 hR0) (fun h => ec0 c22_len (by decide) h) H fun h2325 H => ?_
        refine ld_sl (A := (a0.getD s1637.2.2.2.toNat default).1.1) (n := (a0.getD s1637.2.2.2.toNat default).2.length) (c := (a0.getD s1637.2.2.2.toNat default).1.2) (rd_get (Reads.mono hq1635 hR0) ((ec_get1 (i := s1637.2.2.2.toNat) c22_len (tn h2325)).trans rfl)) ?_
        refine ob_sl ((fun p hp => P22.mono hq1635 (hin0 p hp)) _ (getD_mem (tn h2324))).2 H fun h2326 H => ?_
        have hs2327 := sl_ei ((fun p hp => P22.mono hq1635 (hin0 p hp)) _ (getD_mem (tn h2324))).1 rfl ((fun p hp => P22.mono hq1635 (hin0 p hp)) _ (getD_mem (tn h2324))).2 h2326
        intro n2328 hn2329
        obtain rfl : n2328 = ((((a0.getD s1637.2.2.2.toNat default).2).drop (0 : Int).toNat).take ((gmin (((a0.getD s1637.2.2.2.toNat default).2.length : Nat) : Int) 30).toNat - (0 : Int).toNat)).length := hn2329.trans hs2327.2.1.symm
        refine rs_st hs2327.1 (ei_len.trans (Nat.mul_one _).symm) ?_
        refine ob_app (by decide) (by first | exact ei_one | ((repeat (refine List.forall_mem_cons.2 ⟨rfl, ?_⟩)); intro y hy; cases hy; done) | (intro y hy; simp [ei, eb, es, ec, c22] at hy; (first | (rcases hy with rfl | hy) | subst hy | skip); all_goals first | rfl | simp_all [Value.oneCell'])) H fun h2330 H => ?_
        intro n2331 hn2332
        obtain rfl : n2331 = (s1637.1 ++ ((((a0.getD s1637.2.2.2.toNat default).2).drop (0 : Int).toNat).take ((gmin (((a0.getD s1637.2.2.2.toNat default).2.length : Nat) : Int) 30).toNat - (0 : Int).toNat))).length := hn2332.trans (by first | exact List.length_append.symm | simp)
        refine ob_app (by decide) (by first | exact ei_one | ((repeat (refine List.forall_mem_cons.2 ⟨rfl, ?_⟩)); intro y hy; cases hy; done) | (intro y hy; simp [ei, eb, es, ec, c22] at hy; (first | (rcases hy with rfl | hy) | subst hy | skip); all_goals first | rfl | simp_all [Value.oneCell'])) H fun h2333 H => ?_
        intro n2334 hn2335
        obtain rfl : n2334 = ([] ++ s1637.2.1).length := hn2335.trans (by first | exact List.length_append.symm | simp)
        refine rs_st hs2327.1 (ei_len.trans (Nat.mul_one _).symm) ?_
        refine ob_app (by decide) (by first | exact ei_one | ((repeat (refine List.forall_mem_cons.2 ⟨rfl, ?_⟩)); intro y hy; cases hy; done) | (intro y hy; simp [ei, eb, es, ec, c22] at hy; (first | (rcases hy with rfl | hy) | subst hy | skip); all_goals first | rfl | simp_all [Value.oneCell'])) H fun h2336 H => ?_
        intro n2337 hn2338
        obtain rfl : n2337 = (([] ++ s1637.2.1) ++ ((((a0.getD s1637.2.2.2.toNat default).2).drop (0 : Int).toNat).take ((gmin (((a0.getD s1637.2.2.2.toNat default).2.length : Nat) : Int) 30).toNat - (0 : Int).toNat))).length := hn2338.trans (by first | exact List.length_append.symm | simp)
        refine R.cut_famXG H 49 [0, 3, 5, 6, 18, 19] [] [(8, 0)] (fun (v2349 : List Int × List Int × List Int) (g : (Option Addr × Nat)) => [(8, .v (.slice ((g.1)) (v2349.1.length) ((g.2)))), (9, .own 49), (10, .own 50)]) (fun (v2349 : List Int × List Int × List Int) (g : (Option Addr × Nat)) => [(49, .arr 5 1 (v2349.2.1.length) (ei .u8 (v2349.2.1))), (50, .arr 5 1 (v2349.2.2.length) (ei .u8 (v2349.2.2)))]) [(8, .arr 5 1 (s1637.2.1.length) (ei .u8 (s1637.2.1))), (31, .arr 5 1 ((s1637.1 ++ ((((a0.getD s1637.2.2.2.toNat default).2).drop (0 : Int).toNat).take ((gmin (((a0.getD s1637.2.2.2.toNat default).2.length : Nat) : Int) 30).toNat - (0 : Int).toNat))).length) (ei .u8 ((s1637.1 ++ ((((a0.getD s1637.2.2.2.toNat default).2).drop (0 : Int).toNat).take ((gmin (((a0.getD s1637.2.2.2.toNat default).2.length : Nat) : Int) 30).toNat - (0 : Int).toNat))))))] 2 (fun q (v2349 : List Int × List Int × List Int) (g : (Option Addr × Nat)) => Reads q g.1 (ei .u8 v2349.1) ∧ v2349.1.length ≤ g.2) (fun H => ?_)
        refine And.intro ?_ ?_
        · obtain ⟨v2351, hv2352, H⟩ := call_st H
          refine ⟨((([] ++ s1637.2.1) ++ ((((a0.getD s1637.2.2.2.toNat default).2).drop (0 : Int).toNat).take ((gmin (((a0.getD s1637.2.2.2.toNat default).2.length : Nat) : Int) 30).toNat - (0 : Int).toNat))), v2351), ⟨hv2352⟩, ⟨trivial⟩, ?_⟩
          refine And.intro ⟨by first | rfl | (simp; done), by first | rfl | (simp [ei, eb, es, ec, c22]; done) | (simp only [ei, eb, es, ec, c22, List.map_append, List.nil_append, List.append_assoc]; rfl)⟩ ?_
          intro q2353 A2354 c2355 hq2356 hc2357 hR2358
          replace hR2358 : Reads q2353 A2354 (ei .u8 (([] ++ s1637.2.1) ++ ((((a0.getD s1637.2.2.2.toNat default).2).drop (0 : Int).toNat).take ((gmin (((a0.getD s1637.2.2.2.toNat default).2.length : Nat) : Int) 30).toNat - (0 : Int).toNat)))) := Eq.mp (congrArg (Reads q2353 A2354) (by first | exact rfl | (simp only [ei, eb, es, ec, c22, gmin, gmax, List.map_append, List.flatMap_append, List.nil_append, List.append_nil, List.append_assoc]; done))) hR2358
          refine ⟨(((([] ++ s1637.2.1) ++ ((((a0.getD s1637.2.2.2.toNat default).2).drop (0 : Int).toNat).take ((gmin (((a0.getD s1637.2.2.2.toNat default).2.length : Nat) : Int) 30).toNat - (0 : Int).toNat))), v2351.1, v2351.2), (A2354, c2355)), ⟨H, hR2358, hc2357⟩, ⟨fun _ _ _ h => (hq2356 _ _ _ h)⟩, ?_⟩
          repeat (refine And.intro (Ob.mk (by first | exact rfl | exact Iff.rfl | exact ⟨rfl, rfl⟩ | exact decide_eq_true_iff | (refine ⟨?_, ?_⟩ <;> first | exact rfl | (simp only [ei, eb, es, ec, c22, gmin, gmax, List.map_append, List.flatMap_append, List.nil_append, List.append_nil, List.append_assoc]; done) | omega | (simp only [List.nil_append, List.length_append, List.length_cons, List.length_nil]; omega) | (simp [ei, eb, es, ec, c22, gmin, gmax]; done)) | (constructor <;> first | exact rfl | (simp only [ei, eb, es, ec, c22, gmin, gmax, List.map_append, List.flatMap_append, List.nil_append, List.append_nil, List.append_assoc]; done) | omega | (simp only [List.nil_append, List.length_append, List.length_cons, List.length_nil]; omega) | (simp [ei, eb, es, ec, c22, gmin, gmax]; done)) | exact rfl | (simp only [ei, eb, es, ec, c22, gmin, gmax, List.map_append, List.flatMap_append, List.nil_append, List.append_nil, List.append_assoc]; done) | omega | (simp only [List.nil_append, List.length_append, List.length_cons, List.length_nil]; omega) | (simp [ei, eb, es, ec, c22, gmin, gmax]; done) | simp [ei, eb, es, ec, c22, gmin, gmax])) ?_)
          first | exact trivial | exact rfl
        · rintro q2348 hq2347 ⟨v2349, ⟨A2359, c2360⟩⟩ ⟨H, hR2361, hc2362⟩
          dsimp only at H hR2361 hc2362
          refine R.cut_famX H 91 [0, 3, 5, 6, 9, 10, 18, 19] [] (fun (v2501 : List Int × List Int) (g : (Option Addr × Nat) × (Option Addr × Nat)) => [(11, .v (.slice ((g.1.1)) (v2501.1.length) ((g.1.2)))), (12, .v (.slice ((g.2.1)) (v2501.2.length) ((g.2.2))))]) (fun (v2501 : List Int × List Int) (g : (Option Addr × Nat) × (Option Addr × Nat)) => []) [(49, .arr 5 1 (v2349.2.1.length) (ei .u8 (v2349.2.1))), (50, .arr 5 1 (v2349.2.2.length) (ei .u8 (v2349.2.2))), (8, .arr 5 1 (s1637.2.1.length) (ei .u8 (s1637.2.1))), (31, .arr 5 1 ((s1637.1 ++ ((((a0.getD s1637.2.2.2.toNat default).2).drop (0 : Int).toNat).take ((gmin (((a0.getD s1637.2.2.2.toNat default).2.length : Nat) : Int) 30).toNat - (0 : Int).toNat))).length) (ei .u8 ((s1637.1 ++ ((((a0.getD s1637.2.2.2.toNat default).2).drop (0 : Int).toNat).take ((gmin (((a0.getD s1637.2.2.2.toNat default).2.length : Nat) : Int) 30).toNat - (0 : Int).toNat))))))] 0 (fun q (v2501 : List Int × List Int) (g : (Option Addr × Nat) × (Option Addr × Nat)) => Reads q g.1.1 (ei .u8 v2501.1) ∧ v2501.1.length ≤ g.1.2 ∧ Reads q g.2.1 (ei .u8 v2501.2) ∧ v2501.2.length ≤ g.2.2) (fun H => ?_)
          refine And.intro ?_ ?_
          · refine R.cut_fam H 71 [0] [] (fun v2571 => []) (fun v2571 => []) [(49, .arr 5 1 (v2349.2.1.length) (ei .u8 (v2349.2.1))), (50, .arr 5 1 (v2349.2.2.length) (ei .u8 (v2349.2.2))), (8, .arr 5 1 (s1637.2.1.length) (ei .u8 (s1637.2.1))), (31, .arr 5 1 ((s1637.1 ++ ((((a0.getD s1637.2.2.2.toNat default).2).drop (0 : Int).toNat).take ((gmin (((a0.getD s1637.2.2.2.toNat default).2.length : Nat) : Int) 30).toNat - (0 : Int).toNat))).length) (ei .u8 ((s1637.1 ++ ((((a0.getD s1637.2.2.2.toNat default).2).drop (0 : Int).toNat).take ((gmin (((a0.getD s1637.2.2.2.toNat default).2.length : Nat) : Int) 30).toNat - (0 : Int).toNat))))))] 0 (fun H => ?_)
            refine And.intro ?_ ?_
            · refine ob_ck H fun h2573 H => ?_
              refine R.loop_fam (bind_st H) [0] [] (fun _ s2576 => [(4, .v (.int .i64 (s2576)))]) (fun _ s2576 => []) 0 (fun n2640 H => ?_)
              refine ⟨(n2640, _), ⟨H⟩, ⟨trivial⟩, ?_⟩
              repeat (refine And.intro (Ob.mk (by first | exact rfl | exact Iff.rfl | exact ⟨rfl, rfl⟩ | exact decide_eq_true_iff | (refine ⟨?_, ?_⟩ <;> first | exact rfl | (simp only [ei, eb, es, ec, c22, gmin, gmax, List.map_append, List.flatMap_append, List.nil_append, List.append_nil, List.append_assoc]; done) | omega | (simp only [List.nil_append, List.length_append, List.length_cons, List.length_nil]; omega) | (simp [ei, eb, es, ec, c22, gmin, gmax]; done)) | (constructor <;> first | exact rfl | (simp only [ei, eb, es, ec, c22, gmin, gmax, List.map_append, List.flatMap_append, List.nil_append, List.append_nil, List.append_assoc]; done) | omega | (simp only [List.nil_append, List.length_append, List.length_cons, List.length_nil]; omega) | (simp [ei, eb, es, ec, c22, gmin, gmax]; done)) | exact rfl | (simp only [ei, eb, es, ec, c22, gmin, gmax, List.map_append, List.flatMap_append, List.nil_append, List.append_nil, List.append_assoc]; done) | omega | (simp only [List.nil_append, List.length_append, List.length_cons, List.length_nil]; omega) | (simp [ei, eb, es, ec, c22, gmin, gmax]; done) | simp [ei, eb, es, ec, c22, gmin, gmax])) ?_)
              rintro ⟨m0, s2576⟩ H _
              obtain ⟨m2577, hm0, H⟩ := IG_succ H
              dsimp only at hm0
              subst hm0
              try dsimp only at H
              refine if_st H (fun h2613 H => ?_) (fun h2613 H => ?_)
              · refine ob_sl hc2362 H fun h2614 H => ?_
                have hs2615 := sl_ei hR2361 rfl hc2362 h2614
                intro n2616 hn2617
                obtain rfl : n2616 = ((v2349.1.drop s2576.toNat).take (((v2349.1.length : Nat) : Int).toNat - s2576.toNat)).length := hn2617.trans hs2615.2.1.symm
                obtain ⟨v2618, hv2619, H⟩ := call_st H
                refine ⟨(((v2349.1.drop s2576.toNat).take (((v2349.1.length : Nat) : Int).toNat - s2576.toNat)), v2618), ⟨hv2619⟩, ⟨trivial⟩, ?_⟩
                refine And.intro ⟨rfl, (Nat.le_trans (Nat.le_of_eq hs2615.2.1) hs2615.2.2), ei_len.trans ((show _ = _ from rfl).trans (Nat.mul_one _).symm), hs2615.1⟩ ?_
                refine if_st H (fun h2620 H => ?_) (fun h2620 H => ?_)
                · refine And.intro ⟨by kernel_rfl⟩ ?_
                  refine ob_sl hc2362 H fun h2621 H => ?_
                  have hs2622 := sl_ei hR2361 rfl hc2362 h2621
                  intro n2623 hn2624
                  obtain rfl : n2623 = ((v2349.1.drop (0 : Int).toNat).take (s2576.toNat - (0 : Int).toNat)).length := hn2624.trans hs2622.2.1.symm
                  refine ob_sl hc2362 H fun h2625 H => ?_
                  have hs2626 := sl_ei hR2361 rfl hc2362 h2625
                  intro n2627 hn2628
                  obtain rfl : n2627 = ((v2349.1.drop s2576.toNat).take (((v2349.1.length : Nat) : Int).toNat - s2576.toNat)).length := hn2628.trans hs2626.2.1.symm
                  replace H := some_st H
                  dsimp only [stp, sm] at H
                  refine ⟨((((v2349.1.drop (0 : Int).toNat).take (s2576.toNat - (0 : Int).toNat)), ((v2349.1.drop s2576.toNat).take (((v2349.1.length : Nat) : Int).toNat - s2576.toNat))), (if c2360 = (0 : Int).toNat then A2359 else A2359.map (·.add ((0 : Int).toNat)), c2360 - (0 : Int).toNat), (if c2360 = s2576.toNat then A2359 else A2359.map (·.add (s2576.toNat)), c2360 - s2576.toNat)), ⟨H, hs2622.1, (Nat.le_trans (Nat.le_of_eq hs2622.2.1) hs2622.2.2), hs2626.1, (Nat.le_trans (Nat.le_of_eq hs2626.2.1) hs2626.2.2)⟩, ⟨rfl⟩, ?_⟩
                  repeat (refine And.intro (Ob.mk (by first | exact rfl | exact Iff.rfl | exact ⟨rfl, rfl⟩ | exact decide_eq_true_iff | (refine ⟨?_, ?_⟩ <;> first | exact rfl | (simp only [ei, eb, es, ec, c22, gmin, gmax, List.map_append, List.flatMap_append, List.nil_append, List.append_nil, List.append_assoc]; done) | omega | (simp only [List.nil_append, List.length_append, List.length_cons, List.length_nil]; omega) | (simp [ei, eb, es, ec, c22, gmin, gmax]; done)) | (constructor <;> first | exact rfl | (simp only [ei, eb, es, ec, c22, gmin, gmax, List.map_append, List.flatMap_append, List.nil_append, List.append_nil, List.append_assoc]; done) | omega | (simp only [List.nil_append, List.length_append, List.length_cons, List.length_nil]; omega) | (simp [ei, eb, es, ec, c22, gmin, gmax]; done)) | exact rfl | (simp only [ei, eb, es, ec, c22, gmin, gmax, List.map_append, List.flatMap_append, List.nil_append, List.append_nil, List.append_assoc]; done) | omega | (simp only [List.nil_append, List.length_append, List.length_cons, List.length_nil]; omega) | (simp [ei, eb, es, ec, c22, gmin, gmax]; done) | simp [ei, eb, es, ec, c22, gmin, gmax])) ?_)
                  first | exact trivial | exact rfl
                · refine ob_ck H fun h2629 H => ?_
                  replace H := some_st H
                  refine ⟨(m2577, s2576 + 1), ⟨H, Nat.lt_succ_self _⟩, ⟨trivial⟩, ⟨rfl⟩, ?_⟩
                  repeat (refine And.intro (Ob.mk (by first | exact rfl | exact Iff.rfl | exact ⟨rfl, rfl⟩ | exact decide_eq_true_iff | (refine ⟨?_, ?_⟩ <;> first | exact rfl | (simp only [ei, eb, es, ec, c22, gmin, gmax, List.map_append, List.flatMap_append, List.nil_append, List.append_nil, List.append_assoc]; done) | omega | (simp only [List.nil_append, List.length_append, List.length_cons, List.length_nil]; omega) | (simp [ei, eb, es, ec, c22, gmin, gmax]; done)) | (constructor <;> first | exact rfl | (simp only [ei, eb, es, ec, c22, gmin, gmax, List.map_append, List.flatMap_append, List.nil_append, List.append_nil, List.append_assoc]; done) | omega | (simp only [List.nil_append, List.length_append, List.length_cons, List.length_nil]; omega) | (simp [ei, eb, es, ec, c22, gmin, gmax]; done)) | exact rfl | (simp only [ei, eb, es, ec, c22, gmin, gmax, List.map_append, List.flatMap_append, List.nil_append, List.append_nil, List.append_assoc]; done) | omega | (simp only [List.nil_append, List.length_append, List.length_cons, List.length_nil]; omega) | (simp [ei, eb, es, ec, c22, gmin, gmax]; done) | simp [ei, eb, es, ec, c22, gmin, gmax])) ?_)
                  first | exact trivial | exact rfl
              · replace H := some_st H
                dsimp only [stp, sm] at H
                refine ⟨(), ⟨H⟩, ⟨rfl⟩, ?_⟩
                repeat (refine And.intro (Ob.mk (by first | exact rfl | exact Iff.rfl | exact ⟨rfl, rfl⟩ | exact decide_eq_true_iff | (refine ⟨?_, ?_⟩ <;> first | exact rfl | (simp only [ei, eb, es, ec, c22, gmin, gmax, List.map_append, List.flatMap_append, List.nil_append, List.append_nil, List.append_assoc]; done) | omega | (simp only [List.nil_append, List.length_append, List.length_cons, List.length_nil]; omega) | (simp [ei, eb, es, ec, c22, gmin, gmax]; done)) | (constructor <;> first | exact rfl | (simp only [ei, eb, es, ec, c22, gmin, gmax, List.map_append, List.flatMap_append, List.nil_append, List.append_nil, List.append_assoc]; done) | omega | (simp only [List.nil_append, List.length_append, List.length_cons, List.length_nil]; omega) | (simp [ei, eb, es, ec, c22, gmin, gmax]; done)) | exact rfl | (simp only [ei, eb, es, ec, c22, gmin, gmax, List.map_append, List.flatMap_append, List.nil_append, List.append_nil, List.append_assoc]; done) | omega | (simp only [List.nil_append, List.length_append, List.length_cons, List.length_nil]; omega) | (simp [ei, eb, es, ec, c22, gmin, gmax]; done) | simp [ei, eb, es, ec, c22, gmin, gmax])) ?_)
                first | exact trivial | exact rfl
            · intro v2571 H
              refine ⟨((v2349.1, ([] : List Int)), (A2359, c2360), (none, 0)), ⟨H, hR2361, hc2362, Reads.nil, Nat.le_refl _⟩, ⟨rfl⟩, ?_⟩
              repeat (refine And.intro (Ob.mk (by first | exact rfl | exact Iff.rfl | exact ⟨rfl, rfl⟩ | exact decide_eq_true_iff | (refine ⟨?_, ?_⟩ <;> first | exact rfl | (simp only [ei, eb, es, ec, c22, gmin, gmax, List.map_append, List.flatMap_append, List.nil_append, List.append_nil, List.append_assoc]; done) | omega | (simp only [List.nil_append, List.length_append, List.length_cons, List.length_nil]; omega) | (simp [ei, eb, es, ec, c22, gmin, gmax]; done)) | (constructor <;> first | exact rfl | (simp only [ei, eb, es, ec, c22, gmin, gmax, List.map_append, List.flatMap_append, List.nil_append, List.append_nil, List.append_assoc]; done) | omega | (simp only [List.nil_append, List.length_append, List.length_cons, List.length_nil]; omega) | (simp [ei, eb, es, ec, c22, gmin, gmax]; done)) | exact rfl | (simp only [ei, eb, es, ec, c22, gmin, gmax, List.map_append, List.flatMap_append, List.nil_append, List.append_nil, List.append_assoc]; done) | omega | (simp only [List.nil_append, List.length_append, List.length_cons, List.length_nil]; omega) | (simp [ei, eb, es, ec, c22, gmin, gmax]; done) | simp [ei, eb, es, ec, c22, gmin, gmax])) ?_)
              first | exact trivial | exact rfl
          · rintro ⟨v2501, ⟨A2641, c2642⟩, ⟨A2645, c2646⟩⟩ ⟨H, hR2643, hc2644, hR2647, hc2648⟩
            dsimp only at H hR2643 hc2644 hR2647 hc2648
            refine ob_str (l := v2349.2.1) H fun h2649 H => ?_
            refine rs_st hR2643 (by rw [ei_len, Nat.mul_one]) ?_
            refine ob_str (l := v2501.1) H fun h2650 H => ?_
            refine if_st H (fun h2651 H => ?_) (fun h2651 H => ?_)
            · replace H := some_st H
              dsimp only [stp, sm] at H
              have hfin := fin_st H
              repeat (refine And.intro (Ob.mk (by first | (rw [← hfin] <;> first | exact rfl | exact Iff.rfl | exact ⟨rfl, rfl⟩ | exact decide_eq_true_iff | (refine ⟨?_, ?_⟩ <;> first | exact rfl | (simp only [ei, eb, es, ec, c22, gmin, gmax, List.map_append, List.flatMap_append, List.nil_append, List.append_nil, List.append_assoc]; done) | omega | (simp only [List.nil_append, List.length_append, List.length_cons, List.length_nil]; omega) | (simp [ei, eb, es, ec, c22, gmin, gmax]; done)) | (constructor <;> first | exact rfl | (simp only [ei, eb, es, ec, c22, gmin, gmax, List.map_append, List.flatMap_append, List.nil_append, List.append_nil, List.append_assoc]; done) | omega | (simp only [List.nil_append, List.length_append, List.length_cons, List.length_nil]; omega) | (simp [ei, eb, es, ec, c22, gmin, gmax]; done)) | exact rfl | (simp only [ei, eb, es, ec, c22, gmin, gmax, List.map_append, List.flatMap_append, List.nil_append, List.append_nil, List.append_assoc]; done) | omega | (simp only [List.nil_append, List.length_append, List.length_cons, List.length_nil]; omega) | (simp [ei, eb, es, ec, c22, gmin, gmax]; done) | simp [ei, eb, es, ec, c22, gmin, gmax]) | first | exact rfl | exact Iff.rfl | exact ⟨rfl, rfl⟩ | exact decide_eq_true_iff | (refine ⟨?_, ?_⟩ <;> first | exact rfl | (simp only [ei, eb, es, ec, c22, gmin, gmax, List.map_append, List.flatMap_append, List.nil_append, List.append_nil, List.append_assoc]; done) | omega | (simp only [List.nil_append, List.length_append, List.length_cons, List.length_nil]; omega) | (simp [ei, eb, es, ec, c22, gmin, gmax]; done)) | (constructor <;> first | exact rfl | (simp only [ei, eb, es, ec, c22, gmin, gmax, List.map_append, List.flatMap_append, List.nil_append, List.append_nil, List.append_assoc]; done) | omega | (simp only [List.nil_append, List.length_append, List.length_cons, List.length_nil]; omega) | (simp [ei, eb, es, ec, c22, gmin, gmax]; done)) | exact rfl | (simp only [ei, eb, es, ec, c22, gmin, gmax, List.map_append, List.flatMap_append, List.nil_append, List.append_nil, List.append_assoc]; done) | omega | (simp only [List.nil_append, List.length_append, List.length_cons, List.length_nil]; omega) | (simp [ei, eb, es, ec, c22, gmin, gmax]; done) | simp [ei, eb, es, ec, c22, gmin, gmax])) ?_)
              first | exact trivial | exact rfl
            · refine ob_str (l := v2349.2.2) H fun h2652 H => ?_
              refine rs_st hR2647 (by rw [ei_len, Nat.mul_one]) ?_
              refine ob_str (l := v2501.2) H fun h2653 H => ?_
              refine if_st H (fun h2654 H => ?_) (fun h2654 H => ?_)
              · replace H := some_st H
                dsimp only [stp, sm] at H
                have hfin := fin_st H
                repeat (refine And.intro (Ob.mk (by first | (rw [← hfin] <;> first | exact rfl | exact Iff.rfl | exact ⟨rfl, rfl⟩ | exact decide_eq_true_iff | (refine ⟨?_, ?_⟩ <;> first | exact rfl | (simp only [ei, eb, es, ec, c22, gmin, gmax, List.map_append, List.flatMap_append, List.nil_append, List.append_nil, List.append_assoc]; done) | omega | (simp only [List.nil_append, List.length_append, List.length_cons, List.length_nil]; omega) | (simp [ei, eb, es, ec, c22, gmin, gmax]; done)) | (constructor <;> first | exact rfl | (simp only [ei, eb, es, ec, c22, gmin, gmax, List.map_append, List.flatMap_append, List.nil_append, List.append_nil, List.append_assoc]; done) | omega | (simp only [List.nil_append, List.length_append, List.length_cons, List.length_nil]; omega) | (simp [ei, eb, es, ec, c22, gmin, gmax]; done)) | exact rfl | (simp only [ei, eb, es, ec, c22, gmin, gmax, List.map_append, List.flatMap_append, List.nil_append, List.append_nil, List.append_assoc]; done) | omega | (simp only [List.nil_append, List.length_append, List.length_cons, List.length_nil]; omega) | (simp [ei, eb, es, ec, c22, gmin, gmax]; done) | simp [ei, eb, es, ec, c22, gmin, gmax]) | first | exact rfl | exact Iff.rfl | exact ⟨rfl, rfl⟩ | exact decide_eq_true_iff | (refine ⟨?_, ?_⟩ <;> first | exact rfl | (simp only [ei, eb, es, ec, c22, gmin, gmax, List.map_append, List.flatMap_append, List.nil_append, List.append_nil, List.append_assoc]; done) | omega | (simp only [List.nil_append, List.length_append, List.length_cons, List.length_nil]; omega) | (simp [ei, eb, es, ec, c22, gmin, gmax]; done)) | (constructor <;> first | exact rfl | (simp only [ei, eb, es, ec, c22, gmin, gmax, List.map_append, List.flatMap_append, List.nil_append, List.append_nil, List.append_assoc]; done) | omega | (simp only [List.nil_append, List.length_append, List.length_cons, List.length_nil]; omega) | (simp [ei, eb, es, ec, c22, gmin, gmax]; done)) | exact rfl | (simp only [ei, eb, es, ec, c22, gmin, gmax, List.map_append, List.flatMap_append, List.nil_append, List.append_nil, List.append_assoc]; done) | omega | (simp only [List.nil_append, List.length_append, List.length_cons, List.length_nil]; omega) | (simp [ei, eb, es, ec, c22, gmin, gmax]; done) | simp [ei, eb, es, ec, c22, gmin, gmax])) ?_)
                first | exact trivial | exact rfl
              · refine if_st H (fun h2655 H => ?_) (fun h2655 H => ?_)
                · replace H := some_st H
                  dsimp only [stp, sm] at H
                  have hfin := fin_st H
                  repeat (refine And.intro (Ob.mk (by first | (rw [← hfin] <;> first | exact rfl | exact Iff.rfl | exact ⟨rfl, rfl⟩ | exact decide_eq_true_iff | (refine ⟨?_, ?_⟩ <;> first | exact rfl | (simp only [ei, eb, es, ec, c22, gmin, gmax, List.map_append, List.flatMap_append, List.nil_append, List.append_nil, List.append_assoc]; done) | omega | (simp only [List.nil_append, List.length_append, List.length_cons, List.length_nil]; omega) | (simp [ei, eb, es, ec, c22, gmin, gmax]; done)) | (constructor <;> first | exact rfl | (simp only [ei, eb, es, ec, c22, gmin, gmax, List.map_append, List.flatMap_append, List.nil_append, List.append_nil, List.append_assoc]; done) | omega | (simp only [List.nil_append, List.length_append, List.length_cons, List.length_nil]; omega) | (simp [ei, eb, es, ec, c22, gmin, gmax]; done)) | exact rfl | (simp only [ei, eb, es, ec, c22, gmin, gmax, List.map_append, List.flatMap_append, List.nil_append, List.append_nil, List.append_assoc]; done) | omega | (simp only [List.nil_append, List.length_append, List.length_cons, List.length_nil]; omega) | (simp [ei, eb, es, ec, c22, gmin, gmax]; done) | simp [ei, eb, es, ec, c22, gmin, gmax]) | first | exact rfl | exact Iff.rfl | exact ⟨rfl, rfl⟩ | exact decide_eq_true_iff | (refine ⟨?_, ?_⟩ <;> first | exact rfl | (simp only [ei, eb, es, ec, c22, gmin, gmax, List.map_append, List.flatMap_append, List.nil_append, List.append_nil, List.append_assoc]; done) | omega | (simp only [List.nil_append, List.length_append, List.length_cons, List.length_nil]; omega) | (simp [ei, eb, es, ec, c22, gmin, gmax]; done)) | (constructor <;> first | exact rfl | (simp only [ei, eb, es, ec, c22, gmin, gmax, List.map_append, List.flatMap_append, List.nil_append, List.append_nil, List.append_assoc]; done) | omega | (simp only [List.nil_append, List.length_append, List.length_cons, List.length_nil]; omega) | (simp [ei, eb, es, ec, c22, gmin, gmax]; done)) | exact rfl | (simp only [ei, eb, es, ec, c22, gmin, gmax, List.map_append, List.flatMap_append, List.nil_append, List.append_nil, List.append_assoc]; done) | omega | (simp only [List.nil_append, List.length_append, List.length_cons, List.length_nil]; omega) | (simp [ei, eb, es, ec, c22, gmin, gmax]; done) | simp [ei, eb, es, ec, c22, gmin, gmax])) ?_)
                  first | exact trivial | exact rfl
                · obtain ⟨v2656, hv2657, H⟩ := call_st H
                  refine ⟨(v2349.2.1, v2656), ⟨hv2657⟩, ⟨trivial⟩, ?_⟩
                  refine And.intro ⟨by first | rfl | (simp; done), by first | rfl | (simp [ei, eb, es, ec, c22]; done) | (simp only [ei, eb, es, ec, c22, List.map_append, List.nil_append, List.append_assoc]; rfl)⟩ ?_
                  refine ob_ck H fun h2658 H => ?_
                  refine ob_app (by decide) (by first | exact ei_one | ((repeat (refine List.forall_mem_cons.2 ⟨rfl, ?_⟩)); intro y hy; cases hy; done) | (intro y hy; simp [ei, eb, es, ec, c22] at hy; (first | (rcases hy with rfl | hy) | subst hy | skip); all_goals first | rfl | simp_all [Value.oneCell'])) H fun h2659 H => ?_
                  intro n2660 hn2661
                  obtain rfl : n2660 = ([] ++ v2349.2.2).length := hn2661.trans (by first | exact List.length_append.symm | simp)
                  refine ob_ck H fun h2662 H => ?_
                  replace H := some_st H
                  refine ⟨(m1638, ((s1637.1 ++ ((((a0.getD s1637.2.2.2.toNat default).2).drop (0 : Int).toNat).take ((gmin (((a0.getD s1637.2.2.2.toNat default).2.length : Nat) : Int) 30).toNat - (0 : Int).toNat))), ([] ++ v2349.2.2), s1637.2.2.1 ++ v2656, s1637.2.2.2 + 1)), ⟨H, Nat.lt_succ_self _⟩, ⟨trivial⟩, ⟨fun _ _ _ h => (hq2347 _ _ _ (hq1635 _ _ _ h))⟩, ?_⟩
                  repeat (refine And.intro (Ob.mk (by first | exact rfl | exact Iff.rfl | exact ⟨rfl, rfl⟩ | exact decide_eq_true_iff | (refine ⟨?_, ?_⟩ <;> first | exact rfl | (simp only [ei, eb, es, ec, c22, gmin, gmax, List.map_append, List.flatMap_append, List.nil_append, List.append_nil, List.append_assoc]; done) | omega | (simp only [List.nil_append, List.length_append, List.length_cons, List.length_nil]; omega) | (simp [ei, eb, es, ec, c22, gmin, gmax]; done)) | (constructor <;> first | exact rfl | (simp only [ei, eb, es, ec, c22, gmin, gmax, List.map_append, List.flatMap_append, List.nil_append, List.append_nil, List.append_assoc]; done) | omega | (simp only [List.nil_append, List.length_append, List.length_cons, List.length_nil]; omega) | (simp [ei, eb, es, ec, c22, gmin, gmax]; done)) | exact rfl | (simp only [ei, eb, es, ec, c22, gmin, gmax, List.map_append, List.flatMap_append, List.nil_append, List.append_nil, List.append_assoc]; done) | omega | (simp only [List.nil_append, List.length_append, List.length_cons, List.length_nil]; omega) | (simp [ei, eb, es, ec, c22, gmin, gmax]; done) | simp [ei, eb, es, ec, c22, gmin, gmax])) ?_)
                  first | exact trivial | exact rfl
      · replace H := some_st H
        dsimp only [stp, sm] at H
        refine ⟨(s1637.1, s1637.2.1, s1637.2.2.1), ⟨H⟩, ⟨fun _ _ _ h => (hq1635 _ _ _ h)⟩, ?_⟩
        repeat (refine And.intro (Ob.mk (by first | exact rfl | exact Iff.rfl | exact ⟨rfl, rfl⟩ | exact decide_eq_true_iff | (refine ⟨?_, ?_⟩ <;> first | exact rfl | (simp only [ei, eb, es, ec, c22, gmin, gmax, List.map_append, List.flatMap_append, List.nil_append, List.append_nil, List.append_assoc]; done) | omega | (simp only [List.nil_append, List.length_append, List.length_cons, List.length_nil]; omega) | (simp [ei, eb, es, ec, c22, gmin, gmax]; done)) | (constructor <;> first | exact rfl | (simp only [ei, eb, es, ec, c22, gmin, gmax, List.map_append, List.flatMap_append, List.nil_append, List.append_nil, List.append_assoc]; done) | omega | (simp only [List.nil_append, List.length_append, List.length_cons, List.length_nil]; omega) | (simp [ei, eb, es, ec, c22, gmin, gmax]; done)) | exact rfl | (simp only [ei, eb, es, ec, c22, gmin, gmax, List.map_append, List.flatMap_append, List.nil_append, List.append_nil, List.append_assoc]; done) | omega | (simp only [List.nil_append, List.length_append, List.length_cons, List.length_nil]; omega) | (simp [ei, eb, es, ec, c22, gmin, gmax]; done) | simp [ei, eb, es, ec, c22, gmin, gmax])) ?_)
        first | exact trivial | exact rfl
    · replace H := some_st H
      dsimp only [stp, sm] at H
      refine ⟨(s1637.1, s1637.2.1, s1637.2.2.1), ⟨H⟩, ⟨fun _ _ _ h => (hq1635 _ _ _ h)⟩, ?_⟩
      repeat (refine And.intro (Ob.mk (by first | exact rfl | exact Iff.rfl | exact ⟨rfl, rfl⟩ | exact decide_eq_true_iff | (refine ⟨?_, ?_⟩ <;> first | exact rfl | (simp only [ei, eb, es, ec, c22, gmin, gmax, List.map_append, List.flatMap_append, List.nil_append, List.append_nil, List.append_assoc]; done) | omega | (simp only [List.nil_append, List.length_append, List.length_cons, List.length_nil]; omega) | (simp [ei, eb, es, ec, c22, gmin, gmax]; done)) | (constructor <;> first | exact rfl | (simp only [ei, eb, es, ec, c22, gmin, gmax, List.map_append, List.flatMap_append, List.nil_append, List.append_nil, List.append_assoc]; done) | omega | (simp only [List.nil_append, List.length_append, List.length_cons, List.length_nil]; omega) | (simp [ei, eb, es, ec, c22, gmin, gmax]; done)) | exact rfl | (simp only [ei, eb, es, ec, c22, gmin, gmax, List.map_append, List.flatMap_append, List.nil_append, List.append_nil, List.append_assoc]; done) | omega | (simp only [List.nil_append, List.length_append, List.length_cons, List.length_nil]; omega) | (simp [ei, eb, es, ec, c22, gmin, gmax]; done) | simp [ei, eb, es, ec, c22, gmin, gmax])) ?_)
      first | exact trivial | exact rfl
  · intro q1632 hq1631 v1633 H
    refine if_st H (fun h2666 H => ?_) (fun h2666 H => ?_)
    · obtain ⟨v2667, hv2668, H⟩ := call_st H
      refine ⟨v2667, ⟨hv2668⟩, ⟨trivial⟩, ?_⟩
      have hfin := fin_st H
      repeat (refine And.intro (Ob.mk (by first | (rw [← hfin] <;> first | exact rfl | exact Iff.rfl | exact ⟨rfl, rfl⟩ | exact decide_eq_true_iff | (refine ⟨?_, ?_⟩ <;> first | exact rfl | (simp only [ei, eb, es, ec, c22, gmin, gmax, List.map_append, List.flatMap_append, List.nil_append, List.append_nil, List.append_assoc]; done) | omega | (simp only [List.nil_append, List.length_append, List.length_cons, List.length_nil]; omega) | (simp [ei, eb, es, ec, c22, gmin, gmax]; done)) | (constructor <;> first | exact rfl | (simp only [ei, eb, es, ec, c22, gmin, gmax, List.map_append, List.flatMap_append, List.nil_append, List.append_nil, List.append_assoc]; done) | omega | (simp only [List.nil_append, List.length_append, List.length_cons, List.length_nil]; omega) | (simp [ei, eb, es, ec, c22, gmin, gmax]; done)) | exact rfl | (simp only [ei, eb, es, ec, c22, gmin, gmax, List.map_append, List.flatMap_append, List.nil_append, List.append_nil, List.append_assoc]; done) | omega | (simp only [List.nil_append, List.length_append, List.length_cons, List.length_nil]; omega) | (simp [ei, eb, es, ec, c22, gmin, gmax]; done) | simp [ei, eb, es, ec, c22, gmin, gmax]) | first | exact rfl | exact Iff.rfl | exact ⟨rfl, rfl⟩ | exact decide_eq_true_iff | (refine ⟨?_, ?_⟩ <;> first | exact rfl | (simp only [ei, eb, es, ec, c22, gmin, gmax, List.map_append, List.flatMap_append, List.nil_append, List.append_nil, List.append_assoc]; done) | omega | (simp only [List.nil_append, List.length_append, List.length_cons, List.length_nil]; omega) | (simp [ei, eb, es, ec, c22, gmin, gmax]; done)) | (constructor <;> first | exact rfl | (simp only [ei, eb, es, ec, c22, gmin, gmax, List.map_append, List.flatMap_append, List.nil_append, List.append_nil, List.append_assoc]; done) | omega | (simp only [List.nil_append, List.length_append, List.length_cons, List.length_nil]; omega) | (simp [ei, eb, es, ec, c22, gmin, gmax]; done)) | exact rfl | (simp only [ei, eb, es, ec, c22, gmin, gmax, List.map_append, List.flatMap_append, List.nil_append, List.append_nil, List.append_assoc]; done) | omega | (simp only [List.nil_append, List.length_append, List.length_cons, List.length_nil]; omega) | (simp [ei, eb, es, ec, c22, gmin, gmax]; done) | simp [ei, eb, es, ec, c22, gmin, gmax])) ?_)
      first | exact trivial | exact rfl
    · obtain ⟨v2669, hv2670, H⟩ := call_st H
      refine ⟨(v1633.1, v2669), ⟨hv2670⟩, ⟨trivial⟩, ?_⟩
      refine And.intro ⟨by first | rfl | (simp; done), by first | rfl | (simp [ei, eb, es, ec, c22]; done) | (simp only [ei, eb, es, ec, c22, List.map_append, List.nil_append, List.append_assoc]; rfl)⟩ ?_
      refine if_st H (fun h2671 H => ?_) (fun h2671 H => ?_)
      · obtain ⟨v2672, hv2673, H⟩ := call_st H
        refine ⟨v2672, ⟨hv2673⟩, ⟨trivial⟩, ?_⟩
        have hfin := fin_st H
        repeat (refine And.intro (Ob.mk (by first | (rw [← hfin] <;> first | exact rfl | exact Iff.rfl | exact ⟨rfl, rfl⟩ | exact decide_eq_true_iff | (refine ⟨?_, ?_⟩ <;> first | exact rfl | (simp only [ei, eb, es, ec, c22, gmin, gmax, List.map_append, List.flatMap_append, List.nil_append, List.append_nil, List.append_assoc]; done) | omega | (simp only [List.nil_append, List.length_append, List.length_cons, List.length_nil]; omega) | (simp [ei, eb, es, ec, c22, gmin, gmax]; done)) | (constructor <;> first | exact rfl | (simp only [ei, eb, es, ec, c22, gmin, gmax, List.map_append, List.flatMap_append, List.nil_append, List.append_nil, List.append_assoc]; done) | omega | (simp only [List.nil_append, List.length_append, List.length_cons, List.length_nil]; omega) | (simp [ei, eb, es, ec, c22, gmin, gmax]; done)) | exact rfl | (simp only [ei, eb, es, ec, c22, gmin, gmax, List.map_append, List.flatMap_append, List.nil_append, List.append_nil, List.append_assoc]; done) | omega | (simp only [List.nil_append, List.length_append, List.length_cons, List.length_nil]; omega) | (simp [ei, eb, es, ec, c22, gmin, gmax]; done) | simp [ei, eb, es, ec, c22, gmin, gmax]) | first | exact rfl | exact Iff.rfl | exact ⟨rfl, rfl⟩ | exact decide_eq_true_iff | (refine ⟨?_, ?_⟩ <;> first | exact rfl | (simp only [ei, eb, es, ec, c22, gmin, gmax, List.map_append, List.flatMap_append, List.nil_append, List.append_nil, List.append_assoc]; done) | omega | (simp only [List.nil_append, List.length_append, List.length_cons, List.length_nil]; omega) | (simp [ei, eb, es, ec, c22, gmin, gmax]; done)) | (constructor <;> first | exact rfl | (simp only [ei, eb, es, ec, c22, gmin, gmax, List.map_append, List.flatMap_append, List.nil_append, List.append_nil, List.append_assoc]; done) | omega | (simp only [List.nil_append, List.length_append, List.length_cons, List.length_nil]; omega) | (simp [ei, eb, es, ec, c22, gmin, gmax]; done)) | exact rfl | (simp only [ei, eb, es, ec, c22, gmin, gmax, List.map_append, List.flatMap_append, List.nil_append, List.append_nil, List.append_assoc]; done) | omega | (simp only [List.nil_append, List.length_append, List.length_cons, List.length_nil]; omega) | (simp [ei, eb, es, ec, c22, gmin, gmax]; done) | simp [ei, eb, es, ec, c22, gmin, gmax])) ?_)
        first | exact trivial | exact rfl
      · have hfin := fin_st H
        repeat (refine And.intro (Ob.mk (by first | (rw [← hfin] <;> first | exact rfl | exact Iff.rfl | exact ⟨rfl, rfl⟩ | exact decide_eq_true_iff | (refine ⟨?_, ?_⟩ <;> first | exact rfl | (simp only [ei, eb, es, ec, c22, gmin, gmax, List.map_append, List.flatMap_append, List.nil_append, List.append_nil, List.append_assoc]; done) | omega | (simp only [List.nil_append, List.length_append, List.length_cons, List.length_nil]; omega) | (simp [ei, eb, es, ec, c22, gmin, gmax]; done)) | (constructor <;> first | exact rfl | (simp only [ei, eb, es, ec, c22, gmin, gmax, List.map_append, List.flatMap_append, List.nil_append, List.append_nil, List.append_assoc]; done) | omega | (simp only [List.nil_append, List.length_append, List.length_cons, List.length_nil]; omega) | (simp [ei, eb, es, ec, c22, gmin, gmax]; done)) | exact rfl | (simp only [ei, eb, es, ec, c22, gmin, gmax, List.map_append, List.flatMap_append, List.nil_append, List.append_nil, List.append_assoc]; done) | omega | (simp only [List.nil_append, List.length_append, List.length_cons, List.length_nil]; omega) | (simp [ei, eb, es, ec, c22, gmin, gmax]; done) | simp [ei, eb, es, ec, c22, gmin, gmax]) | first | exact rfl | exact Iff.rfl | exact ⟨rfl, rfl⟩ | exact decide_eq_true_iff | (refine ⟨?_, ?_⟩ <;> first | exact rfl | (simp only [ei, eb, es, ec, c22, gmin, gmax, List.map_append, List.flatMap_append, List.nil_append, List.append_nil, List.append_assoc]; done) | omega | (simp only [List.nil_append, List.length_append, List.length_cons, List.length_nil]; omega) | (simp [ei, eb, es, ec, c22, gmin, gmax]; done)) | (constructor <;> first | exact rfl | (simp only [ei, eb, es, ec, c22, gmin, gmax, List.map_append, List.flatMap_append, List.nil_append, List.append_nil, List.append_assoc]; done) | omega | (simp only [List.nil_append, List.length_append, List.length_cons, List.length_nil]; omega) | (simp [ei, eb, es, ec, c22, gmin, gmax]; done)) | exact rfl | (simp only [ei, eb, es, ec, c22, gmin, gmax, List.map_append, List.flatMap_append, List.nil_append, List.append_nil, List.append_assoc]; done) | omega | (simp only [List.nil_append, List.length_append, List.length_cons, List.length_nil]; omega) | (simp [ei, eb, es, ec, c22, gmin, gmax]; done) | simp [ei, eb, es, ec, c22, gmin, gmax])) ?_)
        first | exact trivial | exact rfl

end Go.Proofs.Ytcnofjjiepcpjaa
