/-
  Functions of the program, lifted: each with its walk. Printed by lift.py.
  Nothing here is trusted.
-/
import Derived.Test.YtenjkphlbdhaiaaLiftA
set_option linter.unusedVariables false
set_option linter.unusedSimpArgs false
namespace Go.Proofs.Ytenjkphlbdhaiaa
open Go Go.Eng

theorem mo1_LiftM4 {p q : Prop} (k : q) (h : p := by first | exact rfl | exact Iff.rfl | exact ⟨rfl, rfl⟩ | exact decide_eq_true_iff | (constructor <;> first | exact rfl | (simp only [ei, eb, es, ec, c135, gmin, gmax, List.map_append, List.flatMap_append, List.nil_append, List.append_nil, List.append_assoc]; done) | omega | (simp only [List.nil_append, List.length_append, List.length_cons, List.length_nil]; omega) | (simp [ei, eb, es, ec, c135, gmin, gmax]; done)) | exact rfl | (simp only [ei, eb, es, ec, c135, gmin, gmax, List.map_append, List.flatMap_append, List.nil_append, List.append_nil, List.append_assoc]; done) | omega | (simp only [List.nil_append, List.length_append, List.length_cons, List.length_nil]; omega) | (simp [ei, eb, es, ec, c135, gmin, gmax]; done) | simp [ei, eb, es, ec, c135, gmin, gmax]) : Ob p ∧ q := ⟨⟨h⟩, k⟩
theorem mf1_LiftM4 {p q : Prop} (k : q) (h : p := by first | (rw [← hfin] <;> first | exact rfl | exact Iff.rfl | exact ⟨rfl, rfl⟩ | exact decide_eq_true_iff | (constructor <;> first | exact rfl | (simp only [ei, eb, es, ec, c135, gmin, gmax, List.map_append, List.flatMap_append, List.nil_append, List.append_nil, List.append_assoc]; done) | omega | (simp only [List.nil_append, List.length_append, List.length_cons, List.length_nil]; omega) | (simp [ei, eb, es, ec, c135, gmin, gmax]; done)) | exact rfl | (simp only [ei, eb, es, ec, c135, gmin, gmax, List.map_append, List.flatMap_append, List.nil_append, List.append_nil, List.append_assoc]; done) | omega | (simp only [List.nil_append, List.length_append, List.length_cons, List.length_nil]; omega) | (simp [ei, eb, es, ec, c135, gmin, gmax]; done) | simp [ei, eb, es, ec, c135, gmin, gmax]) | first | exact rfl | exact Iff.rfl | exact ⟨rfl, rfl⟩ | exact decide_eq_true_iff | (constructor <;> first | exact rfl | (simp only [ei, eb, es, ec, c135, gmin, gmax, List.map_append, List.flatMap_append, List.nil_append, List.append_nil, List.append_assoc]; done) | omega | (simp only [List.nil_append, List.length_append, List.length_cons, List.length_nil]; omega) | (simp [ei, eb, es, ec, c135, gmin, gmax]; done)) | exact rfl | (simp only [ei, eb, es, ec, c135, gmin, gmax, List.map_append, List.flatMap_append, List.nil_append, List.append_nil, List.append_assoc]; done) | omega | (simp only [List.nil_append, List.length_append, List.length_cons, List.length_nil]; omega) | (simp [ei, eb, es, ec, c135, gmin, gmax]; done) | simp [ei, eb, es, ec, c135, gmin, gmax]) : Ob p ∧ q := ⟨⟨h⟩, k⟩
/-- placard/placardlaw12.GapThere -/
noncomputable def g4 (a0 : ByteArray) (a1 : Int) (a2 : Int) (a3 : Int) : Option (Bool) :=
  jn (α := _) (β := ByteArray) (fun k6 =>
      if 200 < (a0.size : Int) then
        (
          ck (0 ≤ (0 : Int) ∧ (0 : Int) ≤ (200 : Int) ∧ (200 : Int) ≤ (a0.size : Int)) <|
          k6 (a0.extract (0 : Int).toNat (200 : Int).toNat)
        )
      else
        k6 a0
  ) (fun v5 =>
    (g15 v5).bind fun v18 =>
    (g21 (300, [], 0, 0) v18).bind fun v20 =>
    if ¬ v20.1 = 0 then
      some false
    else
      (
        (g12 (v20.2.1, v20.2.2.1, v20.2.2.2.1, v20.2.2.2.2) a1).bind fun v23 =>
        (g11 (v23.2.1, v23.2.2.1, v23.2.2.2.1, v23.2.2.2.2)).bind fun v25 =>
        (g18 (v23.2.1, v23.2.2.1, v23.2.2.2.1, v23.2.2.2.2)).bind fun v27 =>
        jn (α := _) (β := Int × List ByteArray × Int × Int × List ByteArray) (fun k105 =>
            (g47 (v23.2.1, v23.2.2.1, v23.2.2.2.1, v23.2.2.2.2)).bind fun v106 =>
            if ¬ (v106 = true) then
              k105 (v23.2.1, v23.2.2.1, v23.2.2.2.1, v23.2.2.2.2, ([] : List ByteArray))
            else
              (
                (g49 (v23.2.1, v23.2.2.1, v23.2.2.2.1, v23.2.2.2.2) a2).bind fun v109 =>
                (g49 (v23.2.1, v23.2.2.1, v23.2.2.2.1, v23.2.2.2.2) a3).bind fun v111 =>
                if v111 ≤ v109 then
                  k105 (v23.2.1, v23.2.2.1, v23.2.2.2.1, v23.2.2.2.2, ([] : List ByteArray))
                else
                  (
                    (g11 (v23.2.1, v23.2.2.1, v23.2.2.2.1, v23.2.2.2.2)).bind fun v114 =>
                    ck (0 ≤ v109 ∧ v109 ≤ v111 ∧ v111 ≤ v111 ∧ v111 ≤ ((v114.length : Nat) : Int)) <|
                    (g12 (v23.2.1, v23.2.2.1, v23.2.2.2.1, v23.2.2.2.2) v109).bind fun v119 =>
                    ck (inR .i64 (v111 - v109)) <|
                    ck (inR .i64 (v119.2.2.2.2 + (v111 - v109))) <|
                    if v111 ≤ v23.2.2.2.1 then
                      (
                        ck (inR .i64 (v111 - v109)) <|
                        ck (inR .i64 (v23.2.2.2.1 - (v111 - v109))) <|
                        (g12 (v119.2.1, v119.2.2.1, v119.2.2.2.1, v119.2.2.2.2 + (v111 - v109)) (v23.2.2.2.1 - (v111 - v109))).bind fun v126 =>
                        k105 (v126.2.1, v126.2.2.1, v126.2.2.2.1, v126.2.2.2.2, ((v114.drop v109.toNat).take (v111.toNat - v109.toNat)))
                      )
                    else
                      (
                        if v23.2.2.2.1 < v109 then
                          (
                            (g12 (v119.2.1, v119.2.2.1, v119.2.2.2.1, v119.2.2.2.2 + (v111 - v109)) v23.2.2.2.1).bind fun v141 =>
                            k105 (v141.2.1, v141.2.2.1, v141.2.2.2.1, v141.2.2.2.2, ((v114.drop v109.toNat).take (v111.toNat - v109.toNat)))
                          )
                        else
                          k105 (v119.2.1, v119.2.2.1, v119.2.2.2.1, v119.2.2.2.2 + (v111 - v109), ((v114.drop v109.toNat).take (v111.toNat - v109.toNat)))
                      )
                  )
              )
        ) (fun v104 =>
          (g18 (v104.1, v104.2.1, v104.2.2.1, v104.2.2.2.1)).bind fun v186 =>
          ck (inR .i64 (v27 + ((v104.2.2.2.2.length : Nat) : Int))) <|
          if ¬ v186 = (v27 + ((v104.2.2.2.2.length : Nat) : Int)) then
            some false
          else
            (
              (g20 (v104.1, v104.2.1, v104.2.2.1, v104.2.2.2.1)).bind fun v190 =>
              ck (inR .i64 (((v25.length : Nat) : Int) - ((v104.2.2.2.2.length : Nat) : Int))) <|
              if ¬ v190 = (((v25.length : Nat) : Int) - ((v104.2.2.2.2.length : Nat) : Int)) then
                some false
              else
                (
                  if 0 < ((v104.2.2.2.2.length : Nat) : Int) then
                    (
                      (g12 (v104.1, v104.2.1, v104.2.2.1, v104.2.2.2.1) (gmax 0 a2)).bind fun v201 =>
                      (g21 (v201.2.1, v201.2.2.1, v201.2.2.2.1, v201.2.2.2.2) v104.2.2.2.2).bind fun v203 =>
                      if ¬ v203.1 = 0 then
                        some false
                      else
                        (
                          (g11 (v203.2.1, v203.2.2.1, v203.2.2.2.1, v203.2.2.2.2)).bind fun v206 =>
                          (g14 v206 v25).bind fun v208 =>
                          if v208 = true then
                            (
                              (g18 (v203.2.1, v203.2.2.1, v203.2.2.2.1, v203.2.2.2.2)).bind fun v211 =>
                              if v211 = v27 then
                                (
                                  (g17).bind fun v214 =>
                                  some v214
                                )
                              else
                                some false
                            )
                          else
                            some false
                        )
                    )
                  else
                    (
                      (g11 (v104.1, v104.2.1, v104.2.2.1, v104.2.2.2.1)).bind fun v216 =>
                      (g14 v216 v25).bind fun v218 =>
                      if v218 = true then
                        (
                          (g18 (v104.1, v104.2.1, v104.2.2.1, v104.2.2.2.1)).bind fun v221 =>
                          if v221 = v27 then
                            (
                              (g17).bind fun v224 =>
                              some v224
                            )
                          else
                            some false
                        )
                      else
                        some false
                    )
                )
            )
        )
      )
  )
noncomputable def k4 : Eng.CS := { f := 4, calm := true, more := 0, ι := ByteArray × Int × Int × Int × Bool, ok := fun i => g4 i.1 i.2.1 i.2.2.1 i.2.2.2.1 = some i.2.2.2.2, rds := fun _ => [], args := fun i => [.w (.v (.string (i.1))), .w (.v (.int .i64 (i.2.1))), .w (.v (.int .i64 (i.2.2.1))), .w (.v (.int .i64 (i.2.2.2.1)))], res := fun i => bS i.2.2.2.2 }
set_option maxRecDepth 8000 in
set_option maxHeartbeats 4000000 in
theorem k4_ok : CalmOk Try.prog k4 := by
  refine R.calmspec Try.func4 nm4 rfl ?_
  rintro ⟨a0, a1, a2, a3, r⟩ hok q _ args hargs
  match args, hargs with
  | [_, _, _, _], hargs =>
  obtain ⟨rfl, rfl, rfl, rfl, _⟩ := hargs
  refine ⟨envC [k11, k12, k14, k15, k17, k18, k20, k21, k47, k49] false [(4, 7), (10, 3)], 6, envC_ok (css_cons ⟨fun h => (by cases h), fun _ => k11_ok⟩ (css_cons ⟨fun h => (by cases h), fun _ => k12_ok⟩ (css_cons ⟨fun _ => k14_ok, fun h => (by cases h)⟩ (css_cons ⟨fun h => (by cases h), fun _ => k15_ok⟩ (css_cons ⟨fun _ => k17_ok, fun h => (by cases h)⟩ (css_cons ⟨fun _ => k18_ok, fun h => (by cases h)⟩ (css_cons ⟨fun _ => k20_ok, fun h => (by cases h)⟩ (css_cons ⟨fun h => (by cases h), fun _ => k21_ok⟩ (css_cons ⟨fun _ => k47_ok, fun h => (by cases h)⟩ (css_cons ⟨fun _ => k49_ok, fun h => (by cases h)⟩ (css_nil))))))))))), rfl, (by intro x hx; simp only [List.mem_cons, List.not_mem_nil, or_false] at hx; rcases hx with rfl | rfl | rfl | rfl <;> rfl), ?_⟩
  have H : Gives (g4 a0 a1 a2 a3) (fun a => a = r) := ⟨r, hok, rfl⟩
  unfold g4 at H
  clear hok
  refine R.cut_fam H 13 [1] [] (fun v5 => [(0, .v (.string (v5)))]) (fun v5 => []) [] 0 (fun H => ?_)
  refine And.intro ?_ ?_
  · refine if_st H (fun h7 H => ?_) (fun h7 H => ?_)
    · refine ob_ck H fun h8 H => ?_
      refine ⟨a0.extract (0 : Int).toNat (200 : Int).toNat, ⟨H⟩, ⟨rfl⟩, ?_⟩
      repeat refine mo1_LiftM4 ?_
      first | exact trivial | exact rfl
    · refine ⟨a0, ⟨H⟩, ⟨rfl⟩, ?_⟩
      repeat refine mo1_LiftM4 ?_
      first | exact trivial | exact rfl
  · intro v5 H
    refine And.intro (fun h => absurd h (by decide)) (fun _ => ?_)
    refine And.intro (fun h => absurd h (by decide)) (fun _ => ?_)
    refine And.intro (fun h => absurd h (by decide)) (fun _ => ?_)
    obtain ⟨v18, hv19, H⟩ := call_st H
    refine ⟨(v5, v18), ⟨hv19⟩, ⟨trivial⟩, ?_⟩
    refine And.intro ⟨rfl⟩ ?_
    obtain ⟨v20, hv21, H⟩ := call_st H
    refine ⟨((300, [], 0, 0), v18, v20), ⟨hv21⟩, ⟨trivial⟩, ?_⟩
    refine And.intro ⟨rfl⟩ ?_
    refine And.intro ⟨by first | rfl | (simp; done), by first | rfl | (simp [ei, eb, es, ec, c135]; done) | (simp only [ei, eb, es, ec, c135, List.map_append, List.nil_append, List.append_assoc]; rfl)⟩ ?_
    refine mo1_LiftM4 ?_
    refine mo1_LiftM4 ?_
    refine mo1_LiftM4 ?_
    refine mo1_LiftM4 ?_
    refine if_st H (fun h22 H => ?_) (fun h22 H => ?_)
    · have hfin := fin_st H
      repeat refine mf1_LiftM4 ?_
      first | exact trivial | exact rfl
    · obtain ⟨v23, hv24, H⟩ := call_st H
      refine ⟨((v20.2.1, v20.2.2.1, v20.2.2.2.1, v20.2.2.2.2), a1, v23), ⟨hv24⟩, ⟨trivial⟩, ?_⟩
      refine And.intro ⟨rfl⟩ ?_
      refine And.intro ⟨rfl⟩ ?_
      refine mo1_LiftM4 ?_
      refine mo1_LiftM4 ?_
      refine mo1_LiftM4 ?_
      refine mo1_LiftM4 ?_
      obtain ⟨v25, hv26, H⟩ := call_st H
      refine ⟨((v23.2.1, v23.2.2.1, v23.2.2.2.1, v23.2.2.2.2), v25), ⟨hv26⟩, ⟨trivial⟩, ?_⟩
      refine mo1_LiftM4 ?_
      refine mo1_LiftM4 ?_
      refine mo1_LiftM4 ?_
      refine mo1_LiftM4 ?_
      obtain ⟨v27, hv28, H⟩ := call_st H
      refine ⟨((v23.2.1, v23.2.2.1, v23.2.2.2.1, v23.2.2.2.2), v27), ⟨hv28⟩, ⟨trivial⟩, ?_⟩
      refine mo1_LiftM4 ?_
      refine mo1_LiftM4 ?_
      refine mo1_LiftM4 ?_
      refine mo1_LiftM4 ?_
      refine R.cut_famXG H 134 [2, 9, 10, 11] [] [(12, 0)] (fun (v104 : Int × List ByteArray × Int × Int × List ByteArray) (g : (Option Addr × Nat)) => [(12, .v (.slice ((g.1)) (v104.2.2.2.2.length) ((g.2))))]) (fun (v104 : Int × List ByteArray × Int × Int × List ByteArray) (g : (Option Addr × Nat)) => [(29, .cells 43 [.v (.int .i64 (v104.1)), .own 134, .v (.int .i64 (v104.2.2.1)), .v (.int .i64 (v104.2.2.2.1))]), (134, .arr 9 1 (v104.2.1.length) (es (v104.2.1)))]) [(45, .arr 9 1 (v18.length) (es (v18))), (63, .arr 9 1 (v25.length) (es (v25)))] 1 (fun q (v104 : Int × List ByteArray × Int × Int × List ByteArray) (g : (Option Addr × Nat)) => Reads q g.1 (es v104.2.2.2.2) ∧ v104.2.2.2.2.length ≤ g.2) (fun H => ?_)
      refine And.intro ?_ ?_
      · obtain ⟨v106, hv107, H⟩ := call_st H
        refine ⟨((v23.2.1, v23.2.2.1, v23.2.2.2.1, v23.2.2.2.2), v106), ⟨hv107⟩, ⟨trivial⟩, ?_⟩
        refine mo1_LiftM4 ?_
        refine mo1_LiftM4 ?_
        refine mo1_LiftM4 ?_
        refine mo1_LiftM4 ?_
        refine if_st H (fun h108 H => ?_) (fun h108 H => ?_)
        · refine ⟨((v23.2.1, v23.2.2.1, v23.2.2.2.1, v23.2.2.2.2, ([] : List ByteArray)), (none, 0)), ⟨H, Reads.nil, Nat.le_refl _⟩, ⟨fun _ _ _ h => h⟩, ?_⟩
          repeat refine mo1_LiftM4 ?_
          first | exact trivial | exact rfl
        · obtain ⟨v109, hv110, H⟩ := call_st H
          refine ⟨((v23.2.1, v23.2.2.1, v23.2.2.2.1, v23.2.2.2.2), a2, v109), ⟨hv110⟩, ⟨trivial⟩, ?_⟩
          refine mo1_LiftM4 ?_
          refine mo1_LiftM4 ?_
          refine mo1_LiftM4 ?_
          refine mo1_LiftM4 ?_
          refine And.intro ⟨rfl⟩ ?_
          obtain ⟨v111, hv112, H⟩ := call_st H
          refine ⟨((v23.2.1, v23.2.2.1, v23.2.2.2.1, v23.2.2.2.2), a3, v111), ⟨hv112⟩, ⟨trivial⟩, ?_⟩
          refine mo1_LiftM4 ?_
          refine mo1_LiftM4 ?_
          refine mo1_LiftM4 ?_
          refine mo1_LiftM4 ?_
          refine And.intro ⟨rfl⟩ ?_
          refine if_st H (fun h113 H => ?_) (fun h113 H => ?_)
          · refine ⟨((v23.2.1, v23.2.2.1, v23.2.2.2.1, v23.2.2.2.2, ([] : List ByteArray)), (none, 0)), ⟨H, Reads.nil, Nat.le_refl _⟩, ⟨fun _ _ _ h => h⟩, ?_⟩
            repeat refine mo1_LiftM4 ?_
            first | exact trivial | exact rfl
          · obtain ⟨v114, hv115, H⟩ := call_st H
            refine ⟨((v23.2.1, v23.2.2.1, v23.2.2.2.1, v23.2.2.2.2), v114), ⟨hv115⟩, ⟨trivial⟩, ?_⟩
            refine mo1_LiftM4 ?_
            refine mo1_LiftM4 ?_
            refine mo1_LiftM4 ?_
            refine mo1_LiftM4 ?_
            refine ob_ck H fun h116 H => ?_
            try dsimp only at h116
            intro n117 hn118
            subst hn118
            obtain ⟨v119, hv120, H⟩ := call_st H
            refine ⟨((v23.2.1, v23.2.2.1, v23.2.2.2.1, v23.2.2.2.2), v109, v119), ⟨hv120⟩, ⟨trivial⟩, ?_⟩
            refine And.intro ⟨rfl⟩ ?_
            refine And.intro ⟨rfl⟩ ?_
            refine mo1_LiftM4 ?_
            refine mo1_LiftM4 ?_
            refine mo1_LiftM4 ?_
            refine mo1_LiftM4 ?_
            refine ob_ck H fun h121 H => ?_
            refine ob_ck H fun h122 H => ?_
            refine if_st H (fun h123 H => ?_) (fun h123 H => ?_)
            · refine ob_ck H fun h124 H => ?_
              refine ob_ck H fun h125 H => ?_
              obtain ⟨v126, hv127, H⟩ := call_st H
              refine ⟨((v119.2.1, v119.2.2.1, v119.2.2.2.1, v119.2.2.2.2 + (v111 - v109)), v23.2.2.2.1 - (v111 - v109), v126), ⟨hv127⟩, ⟨trivial⟩, ?_⟩
              refine And.intro ⟨rfl⟩ ?_
              refine And.intro ⟨rfl⟩ ?_
              refine mo1_LiftM4 ?_
              refine mo1_LiftM4 ?_
              refine mo1_LiftM4 ?_
              refine mo1_LiftM4 ?_
              refine And.intro ⟨by first | omega | (dsimp only; omega)⟩ ?_
              intro q128 A129 c130 A134 c135 n138 hq131 hc136 hR137 hn139 hc132 hR133
              obtain rfl : n138 = ((v114.drop v109.toNat).take (v111.toNat - v109.toNat)).length := hn139.trans (len_vw (by first | omega | (dsimp only; omega) | (dsimp only at *; omega))).symm
              rw [es_vw] at hR133
              refine ⟨((v126.2.1, v126.2.2.1, v126.2.2.2.1, v126.2.2.2.2, ((v114.drop v109.toNat).take (v111.toNat - v109.toNat))), (A129, c130)), ⟨H, hR133, hc132⟩, ⟨fun _ _ _ h => (hq131 _ _ _ h)⟩, ?_⟩
              repeat refine mo1_LiftM4 ?_
              first | exact trivial | exact rfl
            · refine if_st H (fun h140 H => ?_) (fun h140 H => ?_)
              · obtain ⟨v141, hv142, H⟩ := call_st H
                refine ⟨((v119.2.1, v119.2.2.1, v119.2.2.2.1, v119.2.2.2.2 + (v111 - v109)), v23.2.2.2.1, v141), ⟨hv142⟩, ⟨trivial⟩, ?_⟩
                refine And.intro ⟨rfl⟩ ?_
                refine And.intro ⟨rfl⟩ ?_
                refine mo1_LiftM4 ?_
                refine mo1_LiftM4 ?_
                refine mo1_LiftM4 ?_
                refine mo1_LiftM4 ?_
                refine And.intro ⟨by first | omega | (dsimp only; omega)⟩ ?_
                intro q143 A144 c145 A149 c150 n153 hq146 hc151 hR152 hn154 hc147 hR148
                obtain rfl : n153 = ((v114.drop v109.toNat).take (v111.toNat - v109.toNat)).length := hn154.trans (len_vw (by first | omega | (dsimp only; omega) | (dsimp only at *; omega))).symm
                rw [es_vw] at hR148
                refine ⟨((v141.2.1, v141.2.2.1, v141.2.2.2.1, v141.2.2.2.2, ((v114.drop v109.toNat).take (v111.toNat - v109.toNat))), (A144, c145)), ⟨H, hR148, hc147⟩, ⟨fun _ _ _ h => (hq146 _ _ _ h)⟩, ?_⟩
                repeat refine mo1_LiftM4 ?_
                first | exact trivial | exact rfl
              · refine And.intro ⟨by first | omega | (dsimp only; omega)⟩ ?_
                intro q155 A156 c157 A161 c162 n165 hq158 hc163 hR164 hn166 hc159 hR160
                obtain rfl : n165 = ((v114.drop v109.toNat).take (v111.toNat - v109.toNat)).length := hn166.trans (len_vw (by first | omega | (dsimp only; omega) | (dsimp only at *; omega))).symm
                rw [es_vw] at hR160
                refine ⟨((v119.2.1, v119.2.2.1, v119.2.2.2.1, v119.2.2.2.2 + (v111 - v109), ((v114.drop v109.toNat).take (v111.toNat - v109.toNat))), (A156, c157)), ⟨H, hR160, hc159⟩, ⟨fun _ _ _ h => (hq158 _ _ _ h)⟩, ?_⟩
                repeat refine mo1_LiftM4 ?_
                first | exact trivial | exact rfl
      · rintro q103 hq102 ⟨v104, ⟨A167, c168⟩⟩ ⟨H, hR169, hc170⟩
        dsimp only at H hR169 hc170
        obtain ⟨v186, hv187, H⟩ := call_st H
        refine ⟨((v104.1, v104.2.1, v104.2.2.1, v104.2.2.2.1), v186), ⟨hv187⟩, ⟨trivial⟩, ?_⟩
        refine mo1_LiftM4 ?_
        refine mo1_LiftM4 ?_
        refine mo1_LiftM4 ?_
        refine mo1_LiftM4 ?_
        refine ob_ck H fun h188 H => ?_
        refine if_st H (fun h189 H => ?_) (fun h189 H => ?_)
        · have hfin := fin_st H
          repeat refine mf1_LiftM4 ?_
          first | exact trivial | exact rfl
        · obtain ⟨v190, hv191, H⟩ := call_st H
          refine ⟨((v104.1, v104.2.1, v104.2.2.1, v104.2.2.2.1), v190), ⟨hv191⟩, ⟨trivial⟩, ?_⟩
          refine mo1_LiftM4 ?_
          refine mo1_LiftM4 ?_
          refine mo1_LiftM4 ?_
          refine mo1_LiftM4 ?_
          refine ob_ck H fun h192 H => ?_
          refine if_st H (fun h193 H => ?_) (fun h193 H => ?_)
          · have hfin := fin_st H
            repeat refine mf1_LiftM4 ?_
            first | exact trivial | exact rfl
          · refine if_st H (fun h200 H => ?_) (fun h200 H => ?_)
            · obtain ⟨v201, hv202, H⟩ := call_st H
              refine ⟨((v104.1, v104.2.1, v104.2.2.1, v104.2.2.2.1), gmax 0 a2, v201), ⟨hv202⟩, ⟨trivial⟩, ?_⟩
              refine And.intro ⟨rfl⟩ ?_
              refine And.intro ⟨rfl⟩ ?_
              refine mo1_LiftM4 ?_
              refine mo1_LiftM4 ?_
              refine mo1_LiftM4 ?_
              refine mo1_LiftM4 ?_
              obtain ⟨v203, hv204, H⟩ := call_st H
              refine ⟨((v201.2.1, v201.2.2.1, v201.2.2.2.1, v201.2.2.2.2), v104.2.2.2.2, v203), ⟨hv204⟩, ⟨trivial⟩, ?_⟩
              refine And.intro ⟨rfl⟩ ?_
              refine And.intro ⟨rfl, hc170, es_len.trans ((show _ = _ from rfl).trans (Nat.mul_one _).symm), hR169⟩ ?_
              refine mo1_LiftM4 ?_
              refine mo1_LiftM4 ?_
              refine mo1_LiftM4 ?_
              refine mo1_LiftM4 ?_
              refine if_st H (fun h205 H => ?_) (fun h205 H => ?_)
              · have hfin := fin_st H
                repeat refine mf1_LiftM4 ?_
                first | exact trivial | exact rfl
              · obtain ⟨v206, hv207, H⟩ := call_st H
                refine ⟨((v203.2.1, v203.2.2.1, v203.2.2.2.1, v203.2.2.2.2), v206), ⟨hv207⟩, ⟨trivial⟩, ?_⟩
                refine mo1_LiftM4 ?_
                refine mo1_LiftM4 ?_
                refine mo1_LiftM4 ?_
                refine mo1_LiftM4 ?_
                obtain ⟨v208, hv209, H⟩ := call_st H
                refine ⟨(v206, v25, v208), ⟨hv209⟩, ⟨trivial⟩, ?_⟩
                refine And.intro ⟨by first | rfl | (simp; done), by first | rfl | (simp [ei, eb, es, ec, c135]; done) | (simp only [ei, eb, es, ec, c135, List.map_append, List.nil_append, List.append_assoc]; rfl)⟩ ?_
                refine And.intro ⟨by first | rfl | (simp; done), by first | rfl | (simp [ei, eb, es, ec, c135]; done) | (simp only [ei, eb, es, ec, c135, List.map_append, List.nil_append, List.append_assoc]; rfl)⟩ ?_
                refine if_st H (fun h210 H => ?_) (fun h210 H => ?_)
                · obtain ⟨v211, hv212, H⟩ := call_st H
                  refine ⟨((v203.2.1, v203.2.2.1, v203.2.2.2.1, v203.2.2.2.2), v211), ⟨hv212⟩, ⟨trivial⟩, ?_⟩
                  refine mo1_LiftM4 ?_
                  refine mo1_LiftM4 ?_
                  refine mo1_LiftM4 ?_
                  refine mo1_LiftM4 ?_
                  refine if_st H (fun h213 H => ?_) (fun h213 H => ?_)
                  · obtain ⟨v214, hv215, H⟩ := call_st H
                    refine ⟨v214, ⟨hv215⟩, ⟨trivial⟩, ?_⟩
                    have hfin := fin_st H
                    repeat refine mf1_LiftM4 ?_
                    first | exact trivial | exact rfl
                  · have hfin := fin_st H
                    repeat refine mf1_LiftM4 ?_
                    first | exact trivial | exact rfl
                · have hfin := fin_st H
                  repeat refine mf1_LiftM4 ?_
                  first | exact trivial | exact rfl
            · obtain ⟨v216, hv217, H⟩ := call_st H
              refine ⟨((v104.1, v104.2.1, v104.2.2.1, v104.2.2.2.1), v216), ⟨hv217⟩, ⟨trivial⟩, ?_⟩
              refine mo1_LiftM4 ?_
              refine mo1_LiftM4 ?_
              refine mo1_LiftM4 ?_
              refine mo1_LiftM4 ?_
              obtain ⟨v218, hv219, H⟩ := call_st H
              refine ⟨(v216, v25, v218), ⟨hv219⟩, ⟨trivial⟩, ?_⟩
              refine And.intro ⟨by first | rfl | (simp; done), by first | rfl | (simp [ei, eb, es, ec, c135]; done) | (simp only [ei, eb, es, ec, c135, List.map_append, List.nil_append, List.append_assoc]; rfl)⟩ ?_
              refine And.intro ⟨by first | rfl | (simp; done), by first | rfl | (simp [ei, eb, es, ec, c135]; done) | (simp only [ei, eb, es, ec, c135, List.map_append, List.nil_append, List.append_assoc]; rfl)⟩ ?_
              refine if_st H (fun h220 H => ?_) (fun h220 H => ?_)
              · obtain ⟨v221, hv222, H⟩ := call_st H
                refine ⟨((v104.1, v104.2.1, v104.2.2.1, v104.2.2.2.1), v221), ⟨hv222⟩, ⟨trivial⟩, ?_⟩
                refine mo1_LiftM4 ?_
                refine mo1_LiftM4 ?_
                refine mo1_LiftM4 ?_
                refine mo1_LiftM4 ?_
                refine if_st H (fun h223 H => ?_) (fun h223 H => ?_)
                · obtain ⟨v224, hv225, H⟩ := call_st H
                  refine ⟨v224, ⟨hv225⟩, ⟨trivial⟩, ?_⟩
                  have hfin := fin_st H
                  repeat refine mf1_LiftM4 ?_
                  first | exact trivial | exact rfl
                · have hfin := fin_st H
                  repeat refine mf1_LiftM4 ?_
                  first | exact trivial | exact rfl
              · have hfin := fin_st H
                repeat refine mf1_LiftM4 ?_
                first | exact trivial | exact rfl

end Go.Proofs.Ytenjkphlbdhaiaa
