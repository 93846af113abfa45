/-
  Functions of the program, lifted: each with its walk. Printed by lift.py.
  Nothing here is trusted.
-/
import Derived.Test.YtenjkphlbdhaiaaLiftA
import Derived.Test.YtenjkphlbdhaiaaLiftG4
set_option linter.unusedVariables false
set_option linter.unusedSimpArgs false
namespace Go.Proofs.Ytenjkphlbdhaiaa
open Go Go.Eng

theorem mo1_LiftM5 {p q : Prop} (k : q) (h : p := by first | exact rfl | exact Iff.rfl | exact ⟨rfl, rfl⟩ | exact decide_eq_true_iff | (constructor <;> first | exact rfl | (simp only [ei, eb, es, ec, c135, gmin, gmax, List.map_append, List.flatMap_append, List.nil_append, List.append_nil, List.append_assoc]; done) | omega | (simp only [List.nil_append, List.length_append, List.length_cons, List.length_nil]; omega) | (simp [ei, eb, es, ec, c135, gmin, gmax]; done)) | exact rfl | (simp only [ei, eb, es, ec, c135, gmin, gmax, List.map_append, List.flatMap_append, List.nil_append, List.append_nil, List.append_assoc]; done) | omega | (simp only [List.nil_append, List.length_append, List.length_cons, List.length_nil]; omega) | (simp [ei, eb, es, ec, c135, gmin, gmax]; done) | simp [ei, eb, es, ec, c135, gmin, gmax]) : Ob p ∧ q := ⟨⟨h⟩, k⟩
theorem mf1_LiftM5 {p q : Prop} (k : q) (h : p := by first | (rw [← hfin] <;> first | exact rfl | exact Iff.rfl | exact ⟨rfl, rfl⟩ | exact decide_eq_true_iff | (constructor <;> first | exact rfl | (simp only [ei, eb, es, ec, c135, gmin, gmax, List.map_append, List.flatMap_append, List.nil_append, List.append_nil, List.append_assoc]; done) | omega | (simp only [List.nil_append, List.length_append, List.length_cons, List.length_nil]; omega) | (simp [ei, eb, es, ec, c135, gmin, gmax]; done)) | exact rfl | (simp only [ei, eb, es, ec, c135, gmin, gmax, List.map_append, List.flatMap_append, List.nil_append, List.append_nil, List.append_assoc]; done) | omega | (simp only [List.nil_append, List.length_append, List.length_cons, List.length_nil]; omega) | (simp [ei, eb, es, ec, c135, gmin, gmax]; done) | simp [ei, eb, es, ec, c135, gmin, gmax]) | first | exact rfl | exact Iff.rfl | exact ⟨rfl, rfl⟩ | exact decide_eq_true_iff | (constructor <;> first | exact rfl | (simp only [ei, eb, es, ec, c135, gmin, gmax, List.map_append, List.flatMap_append, List.nil_append, List.append_nil, List.append_assoc]; done) | omega | (simp only [List.nil_append, List.length_append, List.length_cons, List.length_nil]; omega) | (simp [ei, eb, es, ec, c135, gmin, gmax]; done)) | exact rfl | (simp only [ei, eb, es, ec, c135, gmin, gmax, List.map_append, List.flatMap_append, List.nil_append, List.append_nil, List.append_assoc]; done) | omega | (simp only [List.nil_append, List.length_append, List.length_cons, List.length_nil]; omega) | (simp [ei, eb, es, ec, c135, gmin, gmax]; done) | simp [ei, eb, es, ec, c135, gmin, gmax]) : Ob p ∧ q := ⟨⟨h⟩, k⟩
/-- placard/placardlaw12.GapFinds -/
noncomputable def g5 (a0 : ByteArray) (a1 : Int) (a2 : Int) (a3 : List ByteArray) : Option (Bool) :=
  jn (α := _) (β := ByteArray) (fun k6 =>
      if 200 < (a0.size : Int) then
        (
          ck (0 ≤ (0 : Int) ∧ (0 : Int) ≤ (200 : Int) ∧ (200 : Int) ≤ (a0.size : Int)) <|
          k6 (a0.extract (0 : Int).toNat (200 : Int).toNat)
        )
      else
        k6 a0
  ) (fun v5 =>
    (g15 v5).bind fun v18 =>
    (g21 (300, [], 0, 0) v18).bind fun v20 =>
    if ¬ v20.1 = 0 then
      some false
    else
      (
        (g12 (v20.2.1, v20.2.2.1, v20.2.2.2.1, v20.2.2.2.2) a1).bind fun v23 =>
        (g11 (v23.2.1, v23.2.2.1, v23.2.2.2.1, v23.2.2.2.2)).bind fun v25 =>
        (g22 a3).bind fun v27 =>
        (g23 (v23.2.1, v23.2.2.1, v23.2.2.2.1, v23.2.2.2.2) v27).bind fun v29 =>
        (g13 (v23.2.1, v23.2.2.1, v23.2.2.2.1, v23.2.2.2.2)).bind fun v31 =>
        jn (α := _) (β := Unit) (fun k77 =>
            if v29.2 = true then
              (
                if v29.1 < v31 then
                  some false
                else
                  (
                    ck (inR .i64 (((v25.length : Nat) : Int) - ((v27.length : Nat) : Int))) <|
                    if (((v25.length : Nat) : Int) - ((v27.length : Nat) : Int)) < v29.1 then
                      some false
                    else
                      (
                        ck (inR .i64 (v29.1 + ((v27.length : Nat) : Int))) <|
                        ck (0 ≤ v29.1 ∧ v29.1 ≤ v29.1 + ((v27.length : Nat) : Int) ∧ v29.1 + ((v27.length : Nat) : Int) ≤ ((v25.length : Nat) : Int)) <|
                        (g14 ((v25.drop v29.1.toNat).take ((v29.1 + ((v27.length : Nat) : Int)).toNat - v29.1.toNat)) v27).bind fun v86 =>
                        if ¬ (v86 = true) then
                          some false
                        else
                          (
                            if ¬ (v29.2 = true) then
                              (
                                if ¬ v29.1 = 0 then
                                  some false
                                else
                                  k77 ()
                              )
                            else
                              k77 ()
                          )
                      )
                  )
              )
            else
              (
                if ¬ (v29.2 = true) then
                  (
                    if ¬ v29.1 = 0 then
                      some false
                    else
                      k77 ()
                  )
                else
                  k77 ()
              )
        ) (fun v76 =>
          ck (inR .i64 a2) <|
          ck (inR .i64 (((v25.length : Nat) : Int) - v31)) <|
          ck (inR .i64 (v31 + (gmin a2 (((v25.length : Nat) : Int) - v31)))) <|
          ck (0 ≤ v31 ∧ v31 ≤ v31 + (gmin a2 (((v25.length : Nat) : Int) - v31)) ∧ v31 + (gmin a2 (((v25.length : Nat) : Int) - v31)) ≤ ((v25.length : Nat) : Int)) <|
          (g23 (v23.2.1, v23.2.2.1, v23.2.2.2.1, v23.2.2.2.2) ((v25.drop v31.toNat).take ((v31 + (gmin a2 (((v25.length : Nat) : Int) - v31))).toNat - v31.toNat))).bind fun v99 =>
          if (v99.2 = true) ↔ (0 < (gmin a2 (((v25.length : Nat) : Int) - v31))) then
            (
              if ¬ (v99.2 = true) then
                (
                  (g17).bind fun v103 =>
                  some v103
                )
              else
                (
                  if v99.1 = v31 then
                    (
                      (g17).bind fun v106 =>
                      some v106
                    )
                  else
                    some false
                )
            )
          else
            some false
        )
      )
  )
noncomputable def k5 : Eng.CS := { f := 5, calm := true, more := 0, ι := ByteArray × Int × Int × (List ByteArray) × Bool, ok := fun i => g5 i.1 i.2.1 i.2.2.1 i.2.2.2.1 = some i.2.2.2.2, rds := fun _ => [], args := fun i => [.w (.v (.string (i.1))), .w (.v (.int .i64 (i.2.1))), .w (.v (.int .u8 (i.2.2.1))), .sl 1 i.2.2.2.1.length (es i.2.2.2.1)], res := fun i => bS i.2.2.2.2 }
set_option maxRecDepth 8000 in
set_option maxHeartbeats 4000000 in
theorem k5_ok : CalmOk Try.prog k5 := by
  refine R.calmspec Try.func5 nm5 rfl ?_
  rintro ⟨a0, a1, a2, a3, r⟩ hok q _ args hargs
  match args, hargs with
  | [_, _, _, _], hargs =>
  obtain ⟨rfl, rfl, rfl, ⟨A3, cp3, rfl, hc3, _, hR3⟩, _⟩ := hargs
  refine ⟨envC [k11, k12, k13, k14, k15, k17, k21, k22, k23] false [(5, 10), (10, 3)], 6, envC_ok (css_cons ⟨fun h => (by cases h), fun _ => k11_ok⟩ (css_cons ⟨fun h => (by cases h), fun _ => k12_ok⟩ (css_cons ⟨fun _ => k13_ok, fun h => (by cases h)⟩ (css_cons ⟨fun _ => k14_ok, fun h => (by cases h)⟩ (css_cons ⟨fun h => (by cases h), fun _ => k15_ok⟩ (css_cons ⟨fun _ => k17_ok, fun h => (by cases h)⟩ (css_cons ⟨fun h => (by cases h), fun _ => k21_ok⟩ (css_cons ⟨fun h => (by cases h), fun _ => k22_ok⟩ (css_cons ⟨fun _ => k23_ok, fun h => (by cases h)⟩ (css_nil)))))))))), rfl, (by intro x hx; simp only [List.mem_cons, List.not_mem_nil, or_false] at hx; rcases hx with rfl | rfl | rfl | rfl <;> rfl), ?_⟩
  have H : Gives (g5 a0 a1 a2 a3) (fun a => a = r) := ⟨r, hok, rfl⟩
  unfold g5 at H
  clear hok
  refine R.cut_fam H 13 [1] [] (fun v5 => [(0, .v (.string (v5)))]) (fun v5 => []) [] 0 (fun H => ?_)
  refine And.intro ?_ ?_
  · refine if_st H (fun h7 H => ?_) (fun h7 H => ?_)
    · refine ob_ck H fun h8 H => ?_
      refine ⟨a0.extract (0 : Int).toNat (200 : Int).toNat, ⟨H⟩, ⟨rfl⟩, ?_⟩
      repeat refine mo1_LiftM5 ?_
      first | exact trivial | exact rfl
    · refine ⟨a0, ⟨H⟩, ⟨rfl⟩, ?_⟩
      repeat refine mo1_LiftM5 ?_
      first | exact trivial | exact rfl
  · intro v5 H
    refine And.intro (fun h => absurd h (by decide)) (fun _ => ?_)
    refine And.intro (fun h => absurd h (by decide)) (fun _ => ?_)
    refine And.intro (fun h => absurd h (by decide)) (fun _ => ?_)
    obtain ⟨v18, hv19, H⟩ := call_st H
    refine ⟨(v5, v18), ⟨hv19⟩, ⟨trivial⟩, ?_⟩
    refine And.intro ⟨rfl⟩ ?_
    obtain ⟨v20, hv21, H⟩ := call_st H
    refine ⟨((300, [], 0, 0), v18, v20), ⟨hv21⟩, ⟨trivial⟩, ?_⟩
    refine And.intro ⟨rfl⟩ ?_
    refine And.intro ⟨by first | rfl | (simp; done), by first | rfl | (simp [ei, eb, es, ec, c135]; done) | (simp only [ei, eb, es, ec, c135, List.map_append, List.nil_append, List.append_assoc]; rfl)⟩ ?_
    refine mo1_LiftM5 ?_
    refine mo1_LiftM5 ?_
    refine mo1_LiftM5 ?_
    refine mo1_LiftM5 ?_
    refine if_st H (fun h22 H => ?_) (fun h22 H => ?_)
    · have hfin := fin_st H
      repeat refine mf1_LiftM5 ?_
      first | exact trivial | exact rfl
    · obtain ⟨v23, hv24, H⟩ := call_st H
      refine ⟨((v20.2.1, v20.2.2.1, v20.2.2.2.1, v20.2.2.2.2), a1, v23), ⟨hv24⟩, ⟨trivial⟩, ?_⟩
      refine And.intro ⟨rfl⟩ ?_
      refine And.intro ⟨rfl⟩ ?_
      refine mo1_LiftM5 ?_
      refine mo1_LiftM5 ?_
      refine mo1_LiftM5 ?_
      refine mo1_LiftM5 ?_
      obtain ⟨v25, hv26, H⟩ := call_st H
      refine ⟨((v23.2.1, v23.2.2.1, v23.2.2.2.1, v23.2.2.2.2), v25), ⟨hv26⟩, ⟨trivial⟩, ?_⟩
      refine mo1_LiftM5 ?_
      refine mo1_LiftM5 ?_
      refine mo1_LiftM5 ?_
      refine mo1_LiftM5 ?_
      obtain ⟨v27, hv28, H⟩ := call_st H
      refine ⟨(a3, v27), ⟨hv28⟩, ⟨trivial⟩, ?_⟩
      refine And.intro ⟨rfl, hc3, es_len.trans ((show _ = _ from rfl).trans (Nat.mul_one _).symm), hR3⟩ ?_
      obtain ⟨v29, hv30, H⟩ := call_st H
      refine ⟨((v23.2.1, v23.2.2.1, v23.2.2.2.1, v23.2.2.2.2), v27, v29), ⟨hv30⟩, ⟨trivial⟩, ?_⟩
      refine mo1_LiftM5 ?_
      refine mo1_LiftM5 ?_
      refine mo1_LiftM5 ?_
      refine mo1_LiftM5 ?_
      refine And.intro ⟨by first | rfl | (simp; done), by first | rfl | (simp [ei, eb, es, ec, c135]; done) | (simp only [ei, eb, es, ec, c135, List.map_append, List.nil_append, List.append_assoc]; rfl)⟩ ?_
      obtain ⟨v31, hv32, H⟩ := call_st H
      refine ⟨((v23.2.1, v23.2.2.1, v23.2.2.2.1, v23.2.2.2.2), v31), ⟨hv32⟩, ⟨trivial⟩, ?_⟩
      refine mo1_LiftM5 ?_
      refine mo1_LiftM5 ?_
      refine mo1_LiftM5 ?_
      refine mo1_LiftM5 ?_
      refine R.cut_fam H 115 [2, 9, 10, 14] [] (fun v76 => []) (fun v76 => []) [(29, .cells 43 [.v (.int .i64 (v23.2.1)), .own 55, .v (.int .i64 (v23.2.2.2.1)), .v (.int .i64 (v23.2.2.2.2))]), (45, .arr 9 1 (v18.length) (es (v18))), (55, .arr 9 1 (v23.2.2.1.length) (es (v23.2.2.1))), (63, .arr 9 1 (v25.length) (es (v25))), (67, .arr 9 1 (v27.length) (es (v27)))] 0 (fun H => ?_)
      refine And.intro ?_ ?_
      · refine if_st H (fun h78 H => ?_) (fun h78 H => ?_)
        · refine if_st H (fun h79 H => ?_) (fun h79 H => ?_)
          · have hfin := fin_st H
            repeat refine mf1_LiftM5 ?_
            first | exact trivial | exact rfl
          · refine ob_ck H fun h80 H => ?_
            refine if_st H (fun h81 H => ?_) (fun h81 H => ?_)
            · have hfin := fin_st H
              repeat refine mf1_LiftM5 ?_
              first | exact trivial | exact rfl
            · refine ob_ck H fun h82 H => ?_
              refine ob_ck H fun h83 H => ?_
              try dsimp only at h83
              intro n84 hn85
              subst hn85
              obtain ⟨v86, hv87, H⟩ := call_st H
              refine ⟨(((v25.drop v29.1.toNat).take ((v29.1 + ((v27.length : Nat) : Int)).toNat - v29.1.toNat)), v27, v86), ⟨hv87⟩, ⟨trivial⟩, ?_⟩
              refine And.intro ⟨(len_vw (by first | omega | (dsimp only; omega))).symm, by first | omega | (dsimp only; omega), es_vw⟩ ?_
              refine And.intro ⟨by first | rfl | (simp; done), by first | rfl | (simp [ei, eb, es, ec, c135]; done) | (simp only [ei, eb, es, ec, c135, List.map_append, List.nil_append, List.append_assoc]; rfl)⟩ ?_
              refine if_st H (fun h88 H => ?_) (fun h88 H => ?_)
              · have hfin := fin_st H
                repeat refine mf1_LiftM5 ?_
                first | exact trivial | exact rfl
              · refine if_st H (fun h89 H => ?_) (fun h89 H => ?_)
                · refine if_st H (fun h90 H => ?_) (fun h90 H => ?_)
                  · have hfin := fin_st H
                    repeat refine mf1_LiftM5 ?_
                    first | exact trivial | exact rfl
                  · refine ⟨(), ⟨H⟩, ⟨rfl⟩, ?_⟩
                    repeat refine mo1_LiftM5 ?_
                    first | exact trivial | exact rfl
                · refine ⟨(), ⟨H⟩, ⟨rfl⟩, ?_⟩
                  repeat refine mo1_LiftM5 ?_
                  first | exact trivial | exact rfl
        · refine if_st H (fun h91 H => ?_) (fun h91 H => ?_)
          · refine if_st H (fun h92 H => ?_) (fun h92 H => ?_)
            · have hfin := fin_st H
              repeat refine mf1_LiftM5 ?_
              first | exact trivial | exact rfl
            · refine ⟨(), ⟨H⟩, ⟨rfl⟩, ?_⟩
              repeat refine mo1_LiftM5 ?_
              first | exact trivial | exact rfl
          · refine ⟨(), ⟨H⟩, ⟨rfl⟩, ?_⟩
            repeat refine mo1_LiftM5 ?_
            first | exact trivial | exact rfl
      · intro v76 H
        refine ob_ck H fun h93 H => ?_
        refine ob_ck H fun h94 H => ?_
        refine ob_ck H fun h95 H => ?_
        refine ob_ck H fun h96 H => ?_
        try dsimp only at h96
        intro n97 hn98
        subst hn98
        obtain ⟨v99, hv100, H⟩ := call_st H
        refine ⟨((v23.2.1, v23.2.2.1, v23.2.2.2.1, v23.2.2.2.2), ((v25.drop v31.toNat).take ((v31 + (gmin a2 (((v25.length : Nat) : Int) - v31))).toNat - v31.toNat)), v99), ⟨hv100⟩, ⟨trivial⟩, ?_⟩
        refine mo1_LiftM5 ?_
        refine mo1_LiftM5 ?_
        refine mo1_LiftM5 ?_
        refine mo1_LiftM5 ?_
        refine And.intro ⟨(len_vw (by first | omega | (dsimp only; omega))).symm, by first | omega | (dsimp only; omega), es_vw⟩ ?_
        refine if_st H (fun h101 H => ?_) (fun h101 H => ?_)
        · refine if_st H (fun h102 H => ?_) (fun h102 H => ?_)
          · obtain ⟨v103, hv104, H⟩ := call_st H
            refine ⟨v103, ⟨hv104⟩, ⟨trivial⟩, ?_⟩
            have hfin := fin_st H
            repeat refine mf1_LiftM5 ?_
            first | exact trivial | exact rfl
          · refine if_st H (fun h105 H => ?_) (fun h105 H => ?_)
            · obtain ⟨v106, hv107, H⟩ := call_st H
              refine ⟨v106, ⟨hv107⟩, ⟨trivial⟩, ?_⟩
              have hfin := fin_st H
              repeat refine mf1_LiftM5 ?_
              first | exact trivial | exact rfl
            · have hfin := fin_st H
              repeat refine mf1_LiftM5 ?_
              first | exact trivial | exact rfl
        · have hfin := fin_st H
          repeat refine mf1_LiftM5 ?_
          first | exact trivial | exact rfl

end Go.Proofs.Ytenjkphlbdhaiaa
