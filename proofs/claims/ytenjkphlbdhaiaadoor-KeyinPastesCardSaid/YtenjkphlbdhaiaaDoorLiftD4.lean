/-
  Functions of the program, lifted: each with its walk. Printed by lift.py.
  Nothing here is trusted.
-/
import Derived.Test.YtenjkphlbdhaiaaDoorLiftD3
set_option linter.unusedVariables false
set_option linter.unusedSimpArgs false
namespace Go.Proofs.YtenjkphlbdhaiaaDoor
open Go Go.Eng

def c51 (p : (Int × ByteArray × Int × Bool × Bool × Bool)) : List Value := [.int .i64 p.1, .string p.2.1, .int .i64 p.2.2.1, .bool p.2.2.2.1, .bool p.2.2.2.2.1, .bool p.2.2.2.2.2]
theorem c51_len : ∀ a, (c51 a).length = 6 := fun _ => rfl
theorem c51_one : ∀ a, ∀ y ∈ c51 a, y.oneCell' = true := by intro a y hy; simp only [c51, List.mem_cons, List.not_mem_nil, or_false] at hy; rcases hy with rfl | rfl | rfl | rfl | rfl | rfl <;> rfl
theorem mo1_LiftD4 {p q : Prop} (k : q) (h : p := by first | exact rfl | exact Iff.rfl | exact ⟨rfl, rfl⟩ | exact decide_eq_true_iff | (constructor <;> first | exact rfl | (simp only [ei, eb, es, ec, c51, gmin, gmax, List.map_append, List.flatMap_append, List.nil_append, List.append_nil, List.append_assoc]; done) | omega | (simp only [List.nil_append, List.length_append, List.length_cons, List.length_nil]; omega) | (simp [ei, eb, es, ec, c51, gmin, gmax]; done)) | exact rfl | (simp only [ei, eb, es, ec, c51, gmin, gmax, List.map_append, List.flatMap_append, List.nil_append, List.append_nil, List.append_assoc]; done) | omega | (simp only [List.nil_append, List.length_append, List.length_cons, List.length_nil]; omega) | (simp [ei, eb, es, ec, c51, gmin, gmax]; done) | simp [ei, eb, es, ec, c51, gmin, gmax]) : Ob p ∧ q := ⟨⟨h⟩, k⟩
theorem mf1_LiftD4 {p q : Prop} (k : q) (h : p := by first | (rw [← hfin] <;> first | exact rfl | exact Iff.rfl | exact ⟨rfl, rfl⟩ | exact decide_eq_true_iff | (constructor <;> first | exact rfl | (simp only [ei, eb, es, ec, c51, gmin, gmax, List.map_append, List.flatMap_append, List.nil_append, List.append_nil, List.append_assoc]; done) | omega | (simp only [List.nil_append, List.length_append, List.length_cons, List.length_nil]; omega) | (simp [ei, eb, es, ec, c51, gmin, gmax]; done)) | exact rfl | (simp only [ei, eb, es, ec, c51, gmin, gmax, List.map_append, List.flatMap_append, List.nil_append, List.append_nil, List.append_assoc]; done) | omega | (simp only [List.nil_append, List.length_append, List.length_cons, List.length_nil]; omega) | (simp [ei, eb, es, ec, c51, gmin, gmax]; done) | simp [ei, eb, es, ec, c51, gmin, gmax]) | first | exact rfl | exact Iff.rfl | exact ⟨rfl, rfl⟩ | exact decide_eq_true_iff | (constructor <;> first | exact rfl | (simp only [ei, eb, es, ec, c51, gmin, gmax, List.map_append, List.flatMap_append, List.nil_append, List.append_nil, List.append_assoc]; done) | omega | (simp only [List.nil_append, List.length_append, List.length_cons, List.length_nil]; omega) | (simp [ei, eb, es, ec, c51, gmin, gmax]; done)) | exact rfl | (simp only [ei, eb, es, ec, c51, gmin, gmax, List.map_append, List.flatMap_append, List.nil_append, List.append_nil, List.append_assoc]; done) | omega | (simp only [List.nil_append, List.length_append, List.length_cons, List.length_nil]; omega) | (simp [ei, eb, es, ec, c51, gmin, gmax]; done) | simp [ei, eb, es, ec, c51, gmin, gmax]) : Ob p ∧ q := ⟨⟨h⟩, k⟩
/-- placard/placardref07.Same -/
noncomputable def g10 (a0 : List (Int × ByteArray × Int × Bool × Bool × Bool)) (a1 : List (Int × ByteArray × Int × Bool × Bool × Bool)) : Option (Bool) :=
  if ¬ ((a0.length : Nat) : Int) = ((a1.length : Nat) : Int) then
    some false
  else
    (
      jn (α := _) (β := Unit) (fun k31 =>
          (loopO (σ := Int) (ρ := (Unit) ⊕ (Unit)) (fun s34 =>
              if s34 < ((a0.length : Nat) : Int) then
                (
                  ck (0 ≤ s34 ∧ s34 < ((a0.length : Nat) : Int)) <|
                  ck (0 ≤ s34 ∧ s34 < ((a1.length : Nat) : Int)) <|
                  if ¬ (((a0.getD s34.toNat default).1) = ((a1.getD s34.toNat default).1) ∧ (((a0.getD s34.toNat default).2.1).data.toList = ((a1.getD s34.toNat default).2.1).data.toList ∧ (((a0.getD s34.toNat default).2.2.1) = ((a1.getD s34.toNat default).2.2.1) ∧ (((((a0.getD s34.toNat default).2.2.2.1) = true) ↔ (((a1.getD s34.toNat default).2.2.2.1) = true)) ∧ (((((a0.getD s34.toNat default).2.2.2.2.1) = true) ↔ (((a1.getD s34.toNat default).2.2.2.2.1) = true)) ∧ (((((a0.getD s34.toNat default).2.2.2.2.2) = true) ↔ (((a1.getD s34.toNat default).2.2.2.2.2) = true)) ∧ True)))))) then
                    some (.out (.inl (())))
                  else
                    (
                      ck (inR .i64 (s34 + 1)) <|
                      some (.go (s34 + 1))
                    )
                )
              else
                some (.out (.inr (())))
            ) 0).bind fun o46 =>
          sm o46 (fun o52 =>
              some false
            ) (fun o53 =>
              k31 ()
            )
      ) (fun v30 =>
        some true
      )
    )
noncomputable def k10 : Eng.CS := { f := 10, calm := true, more := 0, ι := (List (Int × ByteArray × Int × Bool × Bool × Bool)) × (List (Int × ByteArray × Int × Bool × Bool × Bool)) × Bool, ok := fun i => g10 i.1 i.2.1 = some i.2.2, rds := fun _ => [], args := fun i => [.sl 6 i.1.length (ec c51 i.1), .sl 6 i.2.1.length (ec c51 i.2.1)], res := fun i => bS i.2.2 }
set_option maxRecDepth 8000 in
set_option maxHeartbeats 4000000 in
theorem k10_ok : CalmOk Tryd.prog k10 := by
  refine R.calmspec Tryd.func10 nm10 rfl ?_
  rintro ⟨a0, a1, r⟩ hok q _ args hargs
  match args, hargs with
  | [_, _], hargs =>
  obtain ⟨⟨A0, cp0, rfl, hc0, _, hR0⟩, ⟨A1, cp1, rfl, hc1, _, hR1⟩, _⟩ := hargs
  refine ⟨envC [] false [(10, 8)], 6, envC_ok (css_nil), rfl, (by intro x hx; simp only [List.mem_cons, List.not_mem_nil, or_false] at hx; rcases hx with rfl | rfl <;> rfl), ?_⟩
  have H : Gives (g10 a0 a1) (fun a => a = r) := ⟨r, hok, rfl⟩
  unfold g10 at H
  clear hok
  refine if_st H (fun h2 H => ?_) (fun h2 H => ?_)
  · have hfin := fin_st H
    repeat refine mf1_LiftD4 ?_
    first | exact trivial | exact rfl
  · refine R.cut_fam H 13 [] [] (fun v30 => []) (fun v30 => []) [] 0 (fun H => ?_)
    refine And.intro ?_ ?_
    · refine R.loop_fam (bind_st H) [0, 1] [] (fun _ s34 => [(5, .v (.int .i64 (s34)))]) (fun _ s34 => []) 0 (fun n54 H => ?_)
      refine ⟨(n54, _), ⟨H⟩, ⟨trivial⟩, ?_⟩
      repeat refine mo1_LiftD4 ?_
      rintro ⟨m0, s34⟩ H _
      obtain ⟨m35, hm0, H⟩ := IG_succ H
      dsimp only at hm0
      subst hm0
      try dsimp only at H
      refine if_st H (fun h47 H => ?_) (fun h47 H => ?_)
      · refine And.intro ⟨by kernel_rfl⟩ ?_
        refine ob_ix hR0 (fun h => ec0 c51_len (by decide) h) H fun h48 H => ?_
        refine ld_int (e := (a0.getD s34.toNat default).1) (rd_get hR0 ((ec_get (i := s34.toNat) (o := 0) c51_len (tn h48) (by decide)).trans rfl)) ?_
        refine ld_str (e := (a0.getD s34.toNat default).2.1) (rd_get hR0 ((ec_get (i := s34.toNat) (o := 1) c51_len (tn h48) (by decide)).trans rfl)) ?_
        refine ld_int (e := (a0.getD s34.toNat default).2.2.1) (rd_get hR0 ((ec_get (i := s34.toNat) (o := 2) c51_len (tn h48) (by decide)).trans rfl)) ?_
        refine ld_bool (e := (a0.getD s34.toNat default).2.2.2.1) (rd_get hR0 ((ec_get (i := s34.toNat) (o := 3) c51_len (tn h48) (by decide)).trans rfl)) ?_
        refine ld_bool (e := (a0.getD s34.toNat default).2.2.2.2.1) (rd_get hR0 ((ec_get (i := s34.toNat) (o := 4) c51_len (tn h48) (by decide)).trans rfl)) ?_
        refine ld_bool (e := (a0.getD s34.toNat default).2.2.2.2.2) (rd_get hR0 ((ec_get (i := s34.toNat) (o := 5) c51_len (tn h48) (by decide)).trans rfl)) ?_
        refine ob_ix hR1 (fun h => ec0 c51_len (by decide) h) H fun h49 H => ?_
        refine ld_int (e := (a1.getD s34.toNat default).1) (rd_get hR1 ((ec_get (i := s34.toNat) (o := 0) c51_len (tn h49) (by decide)).trans rfl)) ?_
        refine ld_str (e := (a1.getD s34.toNat default).2.1) (rd_get hR1 ((ec_get (i := s34.toNat) (o := 1) c51_len (tn h49) (by decide)).trans rfl)) ?_
        refine ld_int (e := (a1.getD s34.toNat default).2.2.1) (rd_get hR1 ((ec_get (i := s34.toNat) (o := 2) c51_len (tn h49) (by decide)).trans rfl)) ?_
        refine ld_bool (e := (a1.getD s34.toNat default).2.2.2.1) (rd_get hR1 ((ec_get (i := s34.toNat) (o := 3) c51_len (tn h49) (by decide)).trans rfl)) ?_
        refine ld_bool (e := (a1.getD s34.toNat default).2.2.2.2.1) (rd_get hR1 ((ec_get (i := s34.toNat) (o := 4) c51_len (tn h49) (by decide)).trans rfl)) ?_
        refine ld_bool (e := (a1.getD s34.toNat default).2.2.2.2.2) (rd_get hR1 ((ec_get (i := s34.toNat) (o := 5) c51_len (tn h49) (by decide)).trans rfl)) ?_
        refine if_st H (fun h50 H => ?_) (fun h50 H => ?_)
        · replace H := some_st H
          dsimp only [stp, sm] at H
          have hfin := fin_st H
          repeat refine mf1_LiftD4 ?_
          first | exact trivial | exact rfl
        · refine ob_ck H fun h51 H => ?_
          replace H := some_st H
          refine ⟨(m35, s34 + 1), ⟨H, Nat.lt_succ_self _⟩, ⟨trivial⟩, ⟨rfl⟩, ?_⟩
          repeat refine mo1_LiftD4 ?_
          first | exact trivial | exact rfl
      · replace H := some_st H
        dsimp only [stp, sm] at H
        refine ⟨(), ⟨H⟩, ⟨rfl⟩, ?_⟩
        repeat refine mo1_LiftD4 ?_
        first | exact trivial | exact rfl
    · intro v30 H
      have hfin := fin_st H
      repeat refine mf1_LiftD4 ?_
      first | exact trivial | exact rfl

/-- placard/placardref07.end -/
noncomputable def g25 (a0 : List Int) : Option (Int) :=
  jn (α := _) (β := Unit) (fun k103 =>
      (loopO (σ := Int) (ρ := (Int) ⊕ (Unit)) (fun s106 =>
          ck (inR .i64 (s106 + 6)) <|
          if (s106 + 6) ≤ ((a0.length : Nat) : Int) then
            (
              ck (inR .i64 (s106 + 6)) <|
              ck (0 ≤ s106 ∧ s106 ≤ s106 + 6 ∧ s106 + 6 ≤ ((a0.length : Nat) : Int)) <|
              ck (isBytes ((a0.drop s106.toNat).take ((s106 + 6).toNat - s106.toNat))) <|
              if (strOf ((a0.drop s106.toNat).take ((s106 + 6).toNat - s106.toNat))).data.toList = (lit [27, 91, 50, 48, 49, 126]).data.toList then
                some (.out (.inl (s106)))
              else
                (
                  ck (inR .i64 (s106 + 1)) <|
                  some (.go (s106 + 1))
                )
            )
          else
            some (.out (.inr (())))
        ) 0).bind fun o128 =>
      sm o128 (fun o139 =>
          some o139
        ) (fun o140 =>
          k103 ()
        )
  ) (fun v102 =>
    some (-1)
  )
noncomputable def k25 : Eng.CS := { f := 25, calm := true, more := 0, ι := (List Int) × Int, ok := fun i => g25 i.1 = some i.2, rds := fun _ => [], args := fun i => [.sl 1 i.1.length (ei .u8 i.1)], res := fun i => .v (.int .i64 (i.2)) }
set_option maxRecDepth 8000 in
set_option maxHeartbeats 4000000 in
theorem k25_ok : CalmOk Tryd.prog k25 := by
  refine R.calmspec Tryd.func25 nm25 rfl ?_
  rintro ⟨a0, r⟩ hok q _ args hargs
  match args, hargs with
  | [_], hargs =>
  obtain ⟨⟨A0, cp0, rfl, hc0, _, hR0⟩, _⟩ := hargs
  refine ⟨envC [] false [(25, 6)], 6, envC_ok (css_nil), rfl, (by intro x hx; simp only [List.mem_cons, List.not_mem_nil, or_false] at hx; rcases hx with rfl <;> rfl), ?_⟩
  have H : Gives (g25 a0) (fun a => a = r) := ⟨r, hok, rfl⟩
  unfold g25 at H
  clear hok
  refine R.cut_fam H 9 [] [] (fun v102 => []) (fun v102 => []) [] 0 (fun H => ?_)
  refine And.intro ?_ ?_
  · refine R.loop_fam (bind_st H) [0] [] (fun _ s106 => [(3, .v (.int .i64 (s106)))]) (fun _ s106 => []) 0 (fun n141 H => ?_)
    refine ⟨(n141, _), ⟨H⟩, ⟨trivial⟩, ?_⟩
    repeat refine mo1_LiftD4 ?_
    rintro ⟨m0, s106⟩ H _
    obtain ⟨m107, hm0, H⟩ := IG_succ H
    dsimp only at hm0
    subst hm0
    try dsimp only at H
    refine ob_ck H fun h129 H => ?_
    refine if_st H (fun h130 H => ?_) (fun h130 H => ?_)
    · refine ob_ck H fun h131 H => ?_
      refine ob_sl hc0 H fun h132 H => ?_
      have hs133 := sl_ei hR0 rfl hc0 h132
      intro n134 hn135
      obtain rfl : n134 = ((a0.drop s106.toNat).take ((s106 + 6).toNat - s106.toNat)).length := hn135.trans hs133.2.1.symm
      refine rs_st hs133.1 (by rw [ei_len, Nat.mul_one]) ?_
      refine ob_str (l := ((a0.drop s106.toNat).take ((s106 + 6).toNat - s106.toNat))) H fun h136 H => ?_
      refine if_st H (fun h137 H => ?_) (fun h137 H => ?_)
      · replace H := some_st H
        dsimp only [stp, sm] at H
        have hfin := fin_st H
        repeat refine mf1_LiftD4 ?_
        first | exact trivial | exact rfl
      · refine ob_ck H fun h138 H => ?_
        replace H := some_st H
        refine ⟨(m107, s106 + 1), ⟨H, Nat.lt_succ_self _⟩, ⟨trivial⟩, ⟨rfl⟩, ?_⟩
        repeat refine mo1_LiftD4 ?_
        first | exact trivial | exact rfl
    · replace H := some_st H
      dsimp only [stp, sm] at H
      refine ⟨(), ⟨H⟩, ⟨rfl⟩, ?_⟩
      repeat refine mo1_LiftD4 ?_
      first | exact trivial | exact rfl
  · intro v102 H
    have hfin := fin_st H
    repeat refine mf1_LiftD4 ?_
    first | exact trivial | exact rfl

/-- placard/keyin.word -/
noncomputable def g28 (a0 : (Int × ByteArray × Int × Bool × Bool × Bool)) : Option (ByteArray) :=
  if a0.1 = 1 then
    some (lit [116, 101, 120, 116])
  else
    (
      if a0.1 = 2 then
        some (lit [101, 110, 116, 101, 114])
      else
        (
          if a0.1 = 3 then
            some (lit [116, 97, 98])
          else
            (
              if a0.1 = 4 then
                some (lit [98, 97, 99, 107, 116, 97, 98])
              else
                (
                  if a0.1 = 5 then
                    some (lit [101, 115, 99, 97, 112, 101])
                  else
                    (
                      if a0.1 = 6 then
                        some (lit [98, 97, 99, 107, 115, 112, 97, 99, 101])
                      else
                        (
                          if a0.1 = 7 then
                            some (lit [100, 101, 108, 101, 116, 101])
                          else
                            (
                              if a0.1 = 8 then
                                some (lit [117, 112])
                              else
                                (
                                  if a0.1 = 9 then
                                    some (lit [100, 111, 119, 110])
                                  else
                                    (
                                      if a0.1 = 10 then
                                        some (lit [108, 101, 102, 116])
                                      else
                                        (
                                          if a0.1 = 11 then
                                            some (lit [114, 105, 103, 104, 116])
                                          else
                                            (
                                              if a0.1 = 12 then
                                                some (lit [104, 111, 109, 101])
                                              else
                                                (
                                                  if a0.1 = 13 then
                                                    some (lit [101, 110, 100])
                                                  else
                                                    (
                                                      if a0.1 = 14 then
                                                        some (lit [112, 97, 103, 101, 117, 112])
                                                      else
                                                        (
                                                          if a0.1 = 15 then
                                                            some (lit [112, 97, 103, 101, 100, 111, 119, 110])
                                                          else
                                                            (
                                                              if a0.1 = 16 then
                                                                some (lit [112, 97, 115, 116, 101])
                                                              else
                                                                (
                                                                  if a0.1 = 17 then
                                                                    (
                                                                      ck ((lit [99, 116, 114, 108, 45]).size + a0.2.1.size ≤ 9223372036854775807) <|
                                                                      some ((lit [99, 116, 114, 108, 45]) ++ a0.2.1)
                                                                    )
                                                                  else
                                                                    (
                                                                      if a0.1 = 18 then
                                                                        (
                                                                          if 1 ≤ a0.2.2.1 then
                                                                            (
                                                                              if a0.2.2.1 ≤ 12 then
                                                                                (
                                                                                  jn (α := _) (β := Unit) (fun k349 =>
                                                                                      if 0 ≤ a0.2.2.1 then
                                                                                        (
                                                                                          if a0.2.2.1 < 100 then
                                                                                            (
                                                                                              if a0.2.2.1 < 10 then
                                                                                                (
                                                                                                  ck (inR .i64 (a0.2.2.1 + 1)) <|
                                                                                                  ck (0 ≤ a0.2.2.1 ∧ a0.2.2.1 ≤ a0.2.2.1 + 1 ∧ a0.2.2.1 + 1 ≤ ((lit [48, 49, 50, 51, 52, 53, 54, 55, 56, 57, 97, 98, 99, 100, 101, 102, 103, 104, 105, 106, 107, 108, 109, 110, 111, 112, 113, 114, 115, 116, 117, 118, 119, 120, 121, 122]).size : Int)) <|
                                                                                                  ck ((lit [102]).size + ((lit [48, 49, 50, 51, 52, 53, 54, 55, 56, 57, 97, 98, 99, 100, 101, 102, 103, 104, 105, 106, 107, 108, 109, 110, 111, 112, 113, 114, 115, 116, 117, 118, 119, 120, 121, 122]).extract a0.2.2.1.toNat (a0.2.2.1 + 1).toNat).size ≤ 9223372036854775807) <|
                                                                                                  some ((lit [102]) ++ ((lit [48, 49, 50, 51, 52, 53, 54, 55, 56, 57, 97, 98, 99, 100, 101, 102, 103, 104, 105, 106, 107, 108, 109, 110, 111, 112, 113, 114, 115, 116, 117, 118, 119, 120, 121, 122]).extract a0.2.2.1.toNat (a0.2.2.1 + 1).toNat))
                                                                                                )
                                                                                              else
                                                                                                (
                                                                                                  ck (inR .i64 (a0.2.2.1 * 2)) <|
                                                                                                  ck (inR .i64 (a0.2.2.1 * 2)) <|
                                                                                                  ck (inR .i64 ((a0.2.2.1 * 2) + 2)) <|
                                                                                                  ck (0 ≤ a0.2.2.1 * 2 ∧ a0.2.2.1 * 2 ≤ (a0.2.2.1 * 2) + 2 ∧ (a0.2.2.1 * 2) + 2 ≤ ((lit [48, 48, 48, 49, 48, 50, 48, 51, 48, 52, 48, 53, 48, 54, 48, 55, 48, 56, 48, 57, 49, 48, 49, 49, 49, 50, 49, 51, 49, 52, 49, 53, 49, 54, 49, 55, 49, 56, 49, 57, 50, 48, 50, 49, 50, 50, 50, 51, 50, 52, 50, 53, 50, 54, 50, 55, 50, 56, 50, 57, 51, 48, 51, 49, 51, 50, 51, 51, 51, 52, 51, 53, 51, 54, 51, 55, 51, 56, 51, 57, 52, 48, 52, 49, 52, 50, 52, 51, 52, 52, 52, 53, 52, 54, 52, 55, 52, 56, 52, 57, 53, 48, 53, 49, 53, 50, 53, 51, 53, 52, 53, 53, 53, 54, 53, 55, 53, 56, 53, 57, 54, 48, 54, 49, 54, 50, 54, 51, 54, 52, 54, 53, 54, 54, 54, 55, 54, 56, 54, 57, 55, 48, 55, 49, 55, 50, 55, 51, 55, 52, 55, 53, 55, 54, 55, 55, 55, 56, 55, 57, 56, 48, 56, 49, 56, 50, 56, 51, 56, 52, 56, 53, 56, 54, 56, 55, 56, 56, 56, 57, 57, 48, 57, 49, 57, 50, 57, 51, 57, 52, 57, 53, 57, 54, 57, 55, 57, 56, 57, 57]).size : Int)) <|
                                                                                                  ck ((lit [102]).size + ((lit [48, 48, 48, 49, 48, 50, 48, 51, 48, 52, 48, 53, 48, 54, 48, 55, 48, 56, 48, 57, 49, 48, 49, 49, 49, 50, 49, 51, 49, 52, 49, 53, 49, 54, 49, 55, 49, 56, 49, 57, 50, 48, 50, 49, 50, 50, 50, 51, 50, 52, 50, 53, 50, 54, 50, 55, 50, 56, 50, 57, 51, 48, 51, 49, 51, 50, 51, 51, 51, 52, 51, 53, 51, 54, 51, 55, 51, 56, 51, 57, 52, 48, 52, 49, 52, 50, 52, 51, 52, 52, 52, 53, 52, 54, 52, 55, 52, 56, 52, 57, 53, 48, 53, 49, 53, 50, 53, 51, 53, 52, 53, 53, 53, 54, 53, 55, 53, 56, 53, 57, 54, 48, 54, 49, 54, 50, 54, 51, 54, 52, 54, 53, 54, 54, 54, 55, 54, 56, 54, 57, 55, 48, 55, 49, 55, 50, 55, 51, 55, 52, 55, 53, 55, 54, 55, 55, 55, 56, 55, 57, 56, 48, 56, 49, 56, 50, 56, 51, 56, 52, 56, 53, 56, 54, 56, 55, 56, 56, 56, 57, 57, 48, 57, 49, 57, 50, 57, 51, 57, 52, 57, 53, 57, 54, 57, 55, 57, 56, 57, 57]).extract (a0.2.2.1 * 2).toNat ((a0.2.2.1 * 2) + 2).toNat).size ≤ 9223372036854775807) <|
                                                                                                  some ((lit [102]) ++ ((lit [48, 48, 48, 49, 48, 50, 48, 51, 48, 52, 48, 53, 48, 54, 48, 55, 48, 56, 48, 57, 49, 48, 49, 49, 49, 50, 49, 51, 49, 52, 49, 53, 49, 54, 49, 55, 49, 56, 49, 57, 50, 48, 50, 49, 50, 50, 50, 51, 50, 52, 50, 53, 50, 54, 50, 55, 50, 56, 50, 57, 51, 48, 51, 49, 51, 50, 51, 51, 51, 52, 51, 53, 51, 54, 51, 55, 51, 56, 51, 57, 52, 48, 52, 49, 52, 50, 52, 51, 52, 52, 52, 53, 52, 54, 52, 55, 52, 56, 52, 57, 53, 48, 53, 49, 53, 50, 53, 51, 53, 52, 53, 53, 53, 54, 53, 55, 53, 56, 53, 57, 54, 48, 54, 49, 54, 50, 54, 51, 54, 52, 54, 53, 54, 54, 54, 55, 54, 56, 54, 57, 55, 48, 55, 49, 55, 50, 55, 51, 55, 52, 55, 53, 55, 54, 55, 55, 55, 56, 55, 57, 56, 48, 56, 49, 56, 50, 56, 51, 56, 52, 56, 53, 56, 54, 56, 55, 56, 56, 56, 57, 57, 48, 57, 49, 57, 50, 57, 51, 57, 52, 57, 53, 57, 54, 57, 55, 57, 56, 57, 57]).extract (a0.2.2.1 * 2).toNat ((a0.2.2.1 * 2) + 2).toNat))
                                                                                                )
                                                                                            )
                                                                                          else
                                                                                            k349 ()
                                                                                        )
                                                                                      else
                                                                                        k349 ()
                                                                                  ) (fun v348 =>
                                                                                    jn (α := _) (β := Int) (fun k364 =>
                                                                                        if a0.2.2.1 < 0 then
                                                                                          (
                                                                                            ck (inR .u64 (0 - (IntKind.wrap .u64 a0.2.2.1))) <|
                                                                                            k364 (0 - (IntKind.wrap .u64 a0.2.2.1))
                                                                                          )
                                                                                        else
                                                                                          k364 (IntKind.wrap .u64 a0.2.2.1)
                                                                                    ) (fun v363 =>
                                                                                      jn (α := _) (β := Int × Int) (fun k369 =>
                                                                                          if 4294967296 ≤ v363 then
                                                                                            k369 (v363 / 2 ^ (32 : Int).toNat, 32)
                                                                                          else
                                                                                            k369 (v363, 0)
                                                                                      ) (fun v368 =>
                                                                                        jn (α := _) (β := Int × Int) (fun k374 =>
                                                                                            if 65536 ≤ v368.1 then
                                                                                              (
                                                                                                ck (inR .i64 (v368.2 + 16)) <|
                                                                                                k374 (v368.1 / 2 ^ (16 : Int).toNat, v368.2 + 16)
                                                                                              )
                                                                                            else
                                                                                              k374 (v368.1, v368.2)
                                                                                        ) (fun v373 =>
                                                                                          if 256 ≤ v373.1 then
                                                                                            none
                                                                                          else
                                                                                            none
                                                                                        )
                                                                                      )
                                                                                    )
                                                                                  )
                                                                                )
                                                                              else
                                                                                some (lit [])
                                                                            )
                                                                          else
                                                                            some (lit [])
                                                                        )
                                                                      else
                                                                        some (lit [])
                                                                    )
                                                                )
                                                            )
                                                        )
                                                    )
                                                )
                                            )
                                        )
                                    )
                                )
                            )
                        )
                    )
                )
            )
        )
    )
noncomputable def k28 : Eng.CS := { f := 28, calm := true, more := 0, ι := (Int × ByteArray × Int × Bool × Bool × Bool) × ByteArray, ok := fun i => g28 i.1 = some i.2, rds := fun _ => [], args := fun i => [.w (.agg [.v (.int .i64 (i.1.1)), .v (.string (i.1.2.1)), .v (.int .i64 (i.1.2.2.1)), bS i.1.2.2.2.1, bS i.1.2.2.2.2.1, bS i.1.2.2.2.2.2])], res := fun i => .v (.string (i.2)) }
set_option maxRecDepth 8000 in
set_option maxHeartbeats 4000000 in
theorem k28_ok : CalmOk Tryd.prog k28 := by
  refine R.calmspec Tryd.func28 nm28 rfl ?_
  rintro ⟨a0, r⟩ hok q _ args hargs
  match args, hargs with
  | [_], hargs =>
  obtain ⟨rfl, _⟩ := hargs
  refine ⟨envC [] false [(61, 4), (61, 8), (77, 4), (77, 7)], 6, envC_ok (css_nil), rfl, (by intro x hx; simp only [List.mem_cons, List.not_mem_nil, or_false] at hx; rcases hx with rfl <;> rfl), ?_⟩
  have H : Gives (g28 a0) (fun a => a = r) := ⟨r, hok, rfl⟩
  unfold g28 at H
  clear hok
  refine if_st H (fun h318 H => ?_) (fun h318 H => ?_)
  · have hfin := fin_st H
    repeat refine mf1_LiftD4 ?_
    first | exact trivial | exact rfl
  · refine if_st H (fun h319 H => ?_) (fun h319 H => ?_)
    · have hfin := fin_st H
      repeat refine mf1_LiftD4 ?_
      first | exact trivial | exact rfl
    · refine if_st H (fun h320 H => ?_) (fun h320 H => ?_)
      · have hfin := fin_st H
        repeat refine mf1_LiftD4 ?_
        first | exact trivial | exact rfl
      · refine if_st H (fun h321 H => ?_) (fun h321 H => ?_)
        · have hfin := fin_st H
          repeat refine mf1_LiftD4 ?_
          first | exact trivial | exact rfl
        · refine if_st H (fun h322 H => ?_) (fun h322 H => ?_)
          · have hfin := fin_st H
            repeat refine mf1_LiftD4 ?_
            first | exact trivial | exact rfl
          · refine if_st H (fun h323 H => ?_) (fun h323 H => ?_)
            · have hfin := fin_st H
              repeat refine mf1_LiftD4 ?_
              first | exact trivial | exact rfl
            · refine if_st H (fun h324 H => ?_) (fun h324 H => ?_)
              · have hfin := fin_st H
                repeat refine mf1_LiftD4 ?_
                first | exact trivial | exact rfl
              · refine if_st H (fun h325 H => ?_) (fun h325 H => ?_)
                · have hfin := fin_st H
                  repeat refine mf1_LiftD4 ?_
                  first | exact trivial | exact rfl
                · refine if_st H (fun h326 H => ?_) (fun h326 H => ?_)
                  · have hfin := fin_st H
                    repeat refine mf1_LiftD4 ?_
                    first | exact trivial | exact rfl
                  · refine if_st H (fun h327 H => ?_) (fun h327 H => ?_)
                    · have hfin := fin_st H
                      repeat refine mf1_LiftD4 ?_
                      first | exact trivial | exact rfl
                    · refine if_st H (fun h328 H => ?_) (fun h328 H => ?_)
                      · have hfin := fin_st H
                        repeat refine mf1_LiftD4 ?_
                        first | exact trivial | exact rfl
                      · refine if_st H (fun h329 H => ?_) (fun h329 H => ?_)
                        · have hfin := fin_st H
                          repeat refine mf1_LiftD4 ?_
                          first | exact trivial | exact rfl
                        · refine if_st H (fun h330 H => ?_) (fun h330 H => ?_)
                          · have hfin := fin_st H
                            repeat refine mf1_LiftD4 ?_
                            first | exact trivial | exact rfl
                          · refine if_st H (fun h331 H => ?_) (fun h331 H => ?_)
                            · have hfin := fin_st H
                              repeat refine mf1_LiftD4 ?_
                              first | exact trivial | exact rfl
                            · refine if_st H (fun h332 H => ?_) (fun h332 H => ?_)
                              · have hfin := fin_st H
                                repeat refine mf1_LiftD4 ?_
                                first | exact trivial | exact rfl
                              · refine if_st H (fun h333 H => ?_) (fun h333 H => ?_)
                                · have hfin := fin_st H
                                  repeat refine mf1_LiftD4 ?_
                                  first | exact trivial | exact rfl
                                · refine if_st H (fun h334 H => ?_) (fun h334 H => ?_)
                                  · refine ob_ck H fun h335 H => ?_
                                    have hfin := fin_st H
                                    repeat refine mf1_LiftD4 ?_
                                    first | exact trivial | exact rfl
                                  · refine if_st H (fun h336 H => ?_) (fun h336 H => ?_)
                                    · refine if_st H (fun h337 H => ?_) (fun h337 H => ?_)
                                      · refine if_st H (fun h338 H => ?_) (fun h338 H => ?_)
                                        · refine And.intro (fun _ => ?_) (fun h => absurd (by decide) h)
                                          refine R.cut_fam H 71 [0] [] (fun v348 => []) (fun v348 => []) [(0, .cells 51 [.v (.int .i64 (a0.1)), .v (.string (a0.2.1)), .v (.int .i64 (a0.2.2.1)), bS a0.2.2.2.1, bS a0.2.2.2.2.1, bS a0.2.2.2.2.2])] 0 (fun H => ?_)
                                          refine And.intro ?_ ?_
                                          · refine if_st H (fun h350 H => ?_) (fun h350 H => ?_)
                                            · refine if_st H (fun h351 H => ?_) (fun h351 H => ?_)
                                              · refine if_st H (fun h352 H => ?_) (fun h352 H => ?_)
                                                · refine ob_ck H fun h353 H => ?_
                                                  refine ob_ck H fun h354 H => ?_
                                                  refine ob_ck H fun h355 H => ?_
                                                  have hfin := fin_st H
                                                  repeat refine mf1_LiftD4 ?_
                                                  first | exact trivial | exact rfl
                                                · refine ob_ck H fun h356 H => ?_
                                                  refine ob_ck H fun h357 H => ?_
                                                  refine ob_ck H fun h358 H => ?_
                                                  refine ob_ck H fun h359 H => ?_
                                                  refine ob_ck H fun h360 H => ?_
                                                  have hfin := fin_st H
                                                  repeat refine mf1_LiftD4 ?_
                                                  first | exact trivial | exact rfl
                                              · refine ⟨(), ⟨H⟩, ⟨rfl⟩, ?_⟩
                                                repeat refine mo1_LiftD4 ?_
                                                first | exact trivial | exact rfl
                                            · refine ⟨(), ⟨H⟩, ⟨rfl⟩, ?_⟩
                                              repeat refine mo1_LiftD4 ?_
                                              first | exact trivial | exact rfl
                                          · intro v348 H
                                            refine R.cut_fam H 81 [0, 5] [] (fun v363 => [(6, .v (.int .u64 (v363)))]) (fun v363 => []) [(0, .cells 51 [.v (.int .i64 (a0.1)), .v (.string (a0.2.1)), .v (.int .i64 (a0.2.2.1)), bS a0.2.2.2.1, bS a0.2.2.2.2.1, bS a0.2.2.2.2.2]), (71, .cells 112 [.v (.int .u8 (0)), .v (.int .u8 (0)), .v (.int .u8 (0)), .v (.int .u8 (0)), .v (.int .u8 (0)), .v (.int .u8 (0)), .v (.int .u8 (0)), .v (.int .u8 (0)), .v (.int .u8 (0)), .v (.int .u8 (0)), .v (.int .u8 (0)), .v (.int .u8 (0)), .v (.int .u8 (0)), .v (.int .u8 (0)), .v (.int .u8 (0)), .v (.int .u8 (0)), .v (.int .u8 (0)), .v (.int .u8 (0)), .v (.int .u8 (0)), .v (.int .u8 (0)), .v (.int .u8 (0)), .v (.int .u8 (0)), .v (.int .u8 (0)), .v (.int .u8 (0))])] 0 (fun H => ?_)
                                            refine And.intro ?_ ?_
                                            · refine if_st H (fun h365 H => ?_) (fun h365 H => ?_)
                                              · refine ob_ck H fun h366 H => ?_
                                                refine ⟨0 - (IntKind.wrap .u64 a0.2.2.1), ⟨H⟩, ⟨rfl⟩, ?_⟩
                                                repeat refine mo1_LiftD4 ?_
                                                first | exact trivial | exact rfl
                                              · refine ⟨IntKind.wrap .u64 a0.2.2.1, ⟨H⟩, ⟨rfl⟩, ?_⟩
                                                repeat refine mo1_LiftD4 ?_
                                                first | exact trivial | exact rfl
                                            · intro v363 H
                                              refine R.cut_fam H 97 [] [] (fun v368 => [(0, .v (.int .u64 (v368.1))), (2, .v (.int .i64 (v368.2)))]) (fun v368 => []) [(0, .cells 51 [.v (.int .i64 (a0.1)), .v (.string (a0.2.1)), .v (.int .i64 (a0.2.2.1)), bS a0.2.2.2.1, bS a0.2.2.2.2.1, bS a0.2.2.2.2.2]), (71, .cells 112 [.v (.int .u8 (0)), .v (.int .u8 (0)), .v (.int .u8 (0)), .v (.int .u8 (0)), .v (.int .u8 (0)), .v (.int .u8 (0)), .v (.int .u8 (0)), .v (.int .u8 (0)), .v (.int .u8 (0)), .v (.int .u8 (0)), .v (.int .u8 (0)), .v (.int .u8 (0)), .v (.int .u8 (0)), .v (.int .u8 (0)), .v (.int .u8 (0)), .v (.int .u8 (0)), .v (.int .u8 (0)), .v (.int .u8 (0)), .v (.int .u8 (0)), .v (.int .u8 (0)), .v (.int .u8 (0)), .v (.int .u8 (0)), .v (.int .u8 (0)), .v (.int .u8 (0))])] 0 (fun H => ?_)
                                              refine And.intro ?_ ?_
                                              · refine if_st H (fun h370 H => ?_) (fun h370 H => ?_)
                                                · refine And.intro ⟨by decide⟩ ?_
                                                  refine ⟨(v363 / 2 ^ (32 : Int).toNat, 32), ⟨H⟩, ⟨rfl⟩, ?_⟩
                                                  repeat refine mo1_LiftD4 ?_
                                                  first | exact trivial | exact rfl
                                                · refine ⟨(v363, 0), ⟨H⟩, ⟨rfl⟩, ?_⟩
                                                  repeat refine mo1_LiftD4 ?_
                                                  first | exact trivial | exact rfl
                                              · intro v368 H
                                                refine R.cut_fam H 106 [] [] (fun v373 => [(0, .v (.int .u64 (v373.1))), (2, .v (.int .i64 (v373.2)))]) (fun v373 => []) [(0, .cells 51 [.v (.int .i64 (a0.1)), .v (.string (a0.2.1)), .v (.int .i64 (a0.2.2.1)), bS a0.2.2.2.1, bS a0.2.2.2.2.1, bS a0.2.2.2.2.2]), (71, .cells 112 [.v (.int .u8 (0)), .v (.int .u8 (0)), .v (.int .u8 (0)), .v (.int .u8 (0)), .v (.int .u8 (0)), .v (.int .u8 (0)), .v (.int .u8 (0)), .v (.int .u8 (0)), .v (.int .u8 (0)), .v (.int .u8 (0)), .v (.int .u8 (0)), .v (.int .u8 (0)), .v (.int .u8 (0)), .v (.int .u8 (0)), .v (.int .u8 (0)), .v (.int .u8 (0)), .v (.int .u8 (0)), .v (.int .u8 (0)), .v (.int .u8 (0)), .v (.int .u8 (0)), .v (.int .u8 (0)), .v (.int .u8 (0)), .v (.int .u8 (0)), .v (.int .u8 (0))])] 0 (fun H => ?_)
                                                refine And.intro ?_ ?_
                                                · refine if_st H (fun h375 H => ?_) (fun h375 H => ?_)
                                                  · refine And.intro ⟨by decide⟩ ?_
                                                    refine ob_ck H fun h376 H => ?_
                                                    refine ⟨(v368.1 / 2 ^ (16 : Int).toNat, v368.2 + 16), ⟨H⟩, ⟨rfl⟩, ?_⟩
                                                    repeat refine mo1_LiftD4 ?_
                                                    first | exact trivial | exact rfl
                                                  · refine ⟨(v368.1, v368.2), ⟨H⟩, ⟨rfl⟩, ?_⟩
                                                    repeat refine mo1_LiftD4 ?_
                                                    first | exact trivial | exact rfl
                                                · intro v373 H
                                                  refine if_st H (fun h377 H => ?_) (fun h377 H => ?_)
                                                  · exact (none_st H).elim
                                                  · exact (none_st H).elim
                                        · have hfin := fin_st H
                                          repeat refine mf1_LiftD4 ?_
                                          first | exact trivial | exact rfl
                                      · have hfin := fin_st H
                                        repeat refine mf1_LiftD4 ?_
                                        first | exact trivial | exact rfl
                                    · have hfin := fin_st H
                                      repeat refine mf1_LiftD4 ?_
                                      first | exact trivial | exact rfl

/-- placard/placardref07.Name -/
noncomputable def g22 (a0 : (Int × ByteArray × Int × Bool × Bool × Bool)) : Option (ByteArray) :=
  jn (α := _) (β := ByteArray) (fun k480 =>
      jn (α := _) (β := Bool) (fun k483 =>
          if 1 ≤ a0.1 then
            k483 (decide (a0.1 < ((17 : Nat) : Int)))
          else
            k483 false
      ) (fun v482 =>
        if v482 = true then
          (
            ck (0 ≤ a0.1 ∧ a0.1 < ((17 : Nat) : Int)) <|
            k480 (([(lit []), (lit [116, 101, 120, 116]), (lit [101, 110, 116, 101, 114]), (lit [116, 97, 98]), (lit [98, 97, 99, 107, 116, 97, 98]), (lit [101, 115, 99, 97, 112, 101]), (lit [98, 97, 99, 107, 115, 112, 97, 99, 101]), (lit [100, 101, 108, 101, 116, 101]), (lit [117, 112]), (lit [100, 111, 119, 110]), (lit [108, 101, 102, 116]), (lit [114, 105, 103, 104, 116]), (lit [104, 111, 109, 101]), (lit [101, 110, 100]), (lit [112, 97, 103, 101, 117, 112]), (lit [112, 97, 103, 101, 100, 111, 119, 110]), (lit [112, 97, 115, 116, 101])]).getD a0.1.toNat default)
          )
        else
          (
            if a0.1 = 17 then
              (
                ck ((lit [99, 116, 114, 108, 45]).size + a0.2.1.size ≤ 9223372036854775807) <|
                k480 ((lit [99, 116, 114, 108, 45]) ++ a0.2.1)
              )
            else
              (
                jn (α := _) (β := Bool) (fun k492 =>
                    if a0.1 = 18 then
                      (
                        if 10 ≤ a0.2.2.1 then
                          k492 (decide (a0.2.2.1 ≤ 12))
                        else
                          k492 false
                      )
                    else
                      k492 false
                ) (fun v491 =>
                  if v491 = true then
                    (
                      ck (inR .i64 (48 + a0.2.2.1)) <|
                      ck (inR .i64 ((48 + a0.2.2.1) - 10)) <|
                      ck (isBytes ([IntKind.wrap .u8 ((48 + a0.2.2.1) - 10)])) <|
                      ck ((lit [102, 49]).size + (strOf ([IntKind.wrap .u8 ((48 + a0.2.2.1) - 10)])).size ≤ 9223372036854775807) <|
                      k480 ((lit [102, 49]) ++ (strOf ([IntKind.wrap .u8 ((48 + a0.2.2.1) - 10)])))
                    )
                  else
                    (
                      jn (α := _) (β := Bool) (fun k503 =>
                          if a0.1 = 18 then
                            (
                              if 1 ≤ a0.2.2.1 then
                                k503 (decide (a0.2.2.1 ≤ 9))
                              else
                                k503 false
                            )
                          else
                            k503 false
                      ) (fun v502 =>
                        if v502 = true then
                          (
                            ck (inR .i64 (48 + a0.2.2.1)) <|
                            ck (isBytes ([IntKind.wrap .u8 (48 + a0.2.2.1)])) <|
                            ck ((lit [102]).size + (strOf ([IntKind.wrap .u8 (48 + a0.2.2.1)])).size ≤ 9223372036854775807) <|
                            k480 ((lit [102]) ++ (strOf ([IntKind.wrap .u8 (48 + a0.2.2.1)])))
                          )
                        else
                          k480 (lit [])
                      )
                    )
                )
              )
          )
      )
  ) (fun v479 =>
    if v479.data.toList = (lit []).data.toList then
      some (lit [])
    else
      (
        if a0.2.2.2.2.1 = true then
          (
            ck ((lit [115, 104, 105, 102, 116, 45]).size + v479.size ≤ 9223372036854775807) <|
            if a0.2.2.2.2.2 = true then
              (
                ck ((lit [99, 116, 108, 45]).size + ((lit [115, 104, 105, 102, 116, 45]) ++ v479).size ≤ 9223372036854775807) <|
                if a0.2.2.2.1 = true then
                  (
                    ck ((lit [97, 108, 116, 45]).size + ((lit [99, 116, 108, 45]) ++ ((lit [115, 104, 105, 102, 116, 45]) ++ v479)).size ≤ 9223372036854775807) <|
                    some ((lit [97, 108, 116, 45]) ++ ((lit [99, 116, 108, 45]) ++ ((lit [115, 104, 105, 102, 116, 45]) ++ v479)))
                  )
                else
                  some ((lit [99, 116, 108, 45]) ++ ((lit [115, 104, 105, 102, 116, 45]) ++ v479))
              )
            else
              (
                if a0.2.2.2.1 = true then
                  (
                    ck ((lit [97, 108, 116, 45]).size + ((lit [115, 104, 105, 102, 116, 45]) ++ v479).size ≤ 9223372036854775807) <|
                    some ((lit [97, 108, 116, 45]) ++ ((lit [115, 104, 105, 102, 116, 45]) ++ v479))
                  )
                else
                  some ((lit [115, 104, 105, 102, 116, 45]) ++ v479)
              )
          )
        else
          (
            if a0.2.2.2.2.2 = true then
              (
                ck ((lit [99, 116, 108, 45]).size + v479.size ≤ 9223372036854775807) <|
                if a0.2.2.2.1 = true then
                  (
                    ck ((lit [97, 108, 116, 45]).size + ((lit [99, 116, 108, 45]) ++ v479).size ≤ 9223372036854775807) <|
                    some ((lit [97, 108, 116, 45]) ++ ((lit [99, 116, 108, 45]) ++ v479))
                  )
                else
                  some ((lit [99, 116, 108, 45]) ++ v479)
              )
            else
              (
                if a0.2.2.2.1 = true then
                  (
                    ck ((lit [97, 108, 116, 45]).size + v479.size ≤ 9223372036854775807) <|
                    some ((lit [97, 108, 116, 45]) ++ v479)
                  )
                else
                  some v479
              )
          )
      )
  )
noncomputable def k22 : Eng.CS := { f := 22, calm := true, more := 0, ι := (Int × ByteArray × Int × Bool × Bool × Bool) × ByteArray, ok := fun i => g22 i.1 = some i.2, rds := fun _ => [], args := fun i => [.w (.agg [.v (.int .i64 (i.1.1)), .v (.string (i.1.2.1)), .v (.int .i64 (i.1.2.2.1)), bS i.1.2.2.2.1, bS i.1.2.2.2.2.1, bS i.1.2.2.2.2.2])], res := fun i => .v (.string (i.2)) }
set_option maxRecDepth 8000 in
set_option maxHeartbeats 4000000 in
theorem k22_ok : CalmOk Tryd.prog k22 := by
  refine R.calmspec Tryd.func22 nm22 rfl ?_
  rintro ⟨a0, r⟩ hok q _ args hargs
  match args, hargs with
  | [_], hargs =>
  obtain ⟨rfl, _⟩ := hargs
  refine ⟨envC [] false [(22, 2), (29, 3), (29, 7), (29, 9)], 6, envC_ok (css_nil), rfl, (by intro x hx; simp only [List.mem_cons, List.not_mem_nil, or_false] at hx; rcases hx with rfl <;> rfl), ?_⟩
  have H : Gives (g22 a0) (fun a => a = r) := ⟨r, hok, rfl⟩
  unfold g22 at H
  clear hok
  refine R.cut_fam H 64 [1] [] (fun v479 => [(3, .v (.string (v479)))]) (fun v479 => []) [(0, .cells 51 [.v (.int .i64 (a0.1)), .v (.string (a0.2.1)), .v (.int .i64 (a0.2.2.1)), bS a0.2.2.2.1, bS a0.2.2.2.2.1, bS a0.2.2.2.2.2])] 0 (fun H => ?_)
  refine And.intro ?_ ?_
  · refine R.cut_fam H 21 [1, 3] [] (fun v482 => [(5, bS v482)]) (fun v482 => []) [(0, .cells 51 [.v (.int .i64 (a0.1)), .v (.string (a0.2.1)), .v (.int .i64 (a0.2.2.1)), bS a0.2.2.2.1, bS a0.2.2.2.2.1, bS a0.2.2.2.2.2]), (5, .cells 51 [.v (.int .i64 (a0.1)), .v (.string (a0.2.1)), .v (.int .i64 (a0.2.2.1)), bS a0.2.2.2.1, bS a0.2.2.2.2.1, bS a0.2.2.2.2.2]), (7, .arr 9 1 (17) (es ([(lit []), (lit [116, 101, 120, 116]), (lit [101, 110, 116, 101, 114]), (lit [116, 97, 98]), (lit [98, 97, 99, 107, 116, 97, 98]), (lit [101, 115, 99, 97, 112, 101]), (lit [98, 97, 99, 107, 115, 112, 97, 99, 101]), (lit [100, 101, 108, 101, 116, 101]), (lit [117, 112]), (lit [100, 111, 119, 110]), (lit [108, 101, 102, 116]), (lit [114, 105, 103, 104, 116]), (lit [104, 111, 109, 101]), (lit [101, 110, 100]), (lit [112, 97, 103, 101, 117, 112]), (lit [112, 97, 103, 101, 100, 111, 119, 110]), (lit [112, 97, 115, 116, 101])])))] 0 (fun H => ?_)
    refine And.intro ?_ ?_
    · refine if_st H (fun h484 H => ?_) (fun h484 H => ?_)
      · refine ⟨(decide (a0.1 < ((17 : Nat) : Int))), ⟨H⟩, ⟨rfl⟩, ?_⟩
        repeat refine mo1_LiftD4 ?_
        first | exact trivial | exact rfl
      · refine ⟨false, ⟨H⟩, ⟨rfl⟩, ?_⟩
        repeat refine mo1_LiftD4 ?_
        first | exact trivial | exact rfl
    · intro v482 H
      refine if_st H (fun h485 H => ?_) (fun h485 H => ?_)
      · refine ob_ck H fun h486 H => ?_
        refine ld_str (e := ([(lit []), (lit [116, 101, 120, 116]), (lit [101, 110, 116, 101, 114]), (lit [116, 97, 98]), (lit [98, 97, 99, 107, 116, 97, 98]), (lit [101, 115, 99, 97, 112, 101]), (lit [98, 97, 99, 107, 115, 112, 97, 99, 101]), (lit [100, 101, 108, 101, 116, 101]), (lit [117, 112]), (lit [100, 111, 119, 110]), (lit [108, 101, 102, 116]), (lit [114, 105, 103, 104, 116]), (lit [104, 111, 109, 101]), (lit [101, 110, 100]), (lit [112, 97, 103, 101, 117, 112]), (lit [112, 97, 103, 101, 100, 111, 119, 110]), (lit [112, 97, 115, 116, 101])]).getD a0.1.toNat default) (own_get (ys := es ([(lit []), (lit [116, 101, 120, 116]), (lit [101, 110, 116, 101, 114]), (lit [116, 97, 98]), (lit [98, 97, 99, 107, 116, 97, 98]), (lit [101, 115, 99, 97, 112, 101]), (lit [98, 97, 99, 107, 115, 112, 97, 99, 101]), (lit [100, 101, 108, 101, 116, 101]), (lit [117, 112]), (lit [100, 111, 119, 110]), (lit [108, 101, 102, 116]), (lit [114, 105, 103, 104, 116]), (lit [104, 111, 109, 101]), (lit [101, 110, 100]), (lit [112, 97, 103, 101, 117, 112]), (lit [112, 97, 103, 101, 100, 111, 119, 110]), (lit [112, 97, 115, 116, 101])])) (by first | rfl | simp [ei, eb, es, ec, c51]) (es_get (l := [(lit []), (lit [116, 101, 120, 116]), (lit [101, 110, 116, 101, 114]), (lit [116, 97, 98]), (lit [98, 97, 99, 107, 116, 97, 98]), (lit [101, 115, 99, 97, 112, 101]), (lit [98, 97, 99, 107, 115, 112, 97, 99, 101]), (lit [100, 101, 108, 101, 116, 101]), (lit [117, 112]), (lit [100, 111, 119, 110]), (lit [108, 101, 102, 116]), (lit [114, 105, 103, 104, 116]), (lit [104, 111, 109, 101]), (lit [101, 110, 100]), (lit [112, 97, 103, 101, 117, 112]), (lit [112, 97, 103, 101, 100, 111, 119, 110]), (lit [112, 97, 115, 116, 101])]) (by first | exact tn h486 | (have := tn h486; simp at this ⊢; omega) | (have := tn h486; simp; omega)))) ?_
        refine ⟨([(lit []), (lit [116, 101, 120, 116]), (lit [101, 110, 116, 101, 114]), (lit [116, 97, 98]), (lit [98, 97, 99, 107, 116, 97, 98]), (lit [101, 115, 99, 97, 112, 101]), (lit [98, 97, 99, 107, 115, 112, 97, 99, 101]), (lit [100, 101, 108, 101, 116, 101]), (lit [117, 112]), (lit [100, 111, 119, 110]), (lit [108, 101, 102, 116]), (lit [114, 105, 103, 104, 116]), (lit [104, 111, 109, 101]), (lit [101, 110, 100]), (lit [112, 97, 103, 101, 117, 112]), (lit [112, 97, 103, 101, 100, 111, 119, 110]), (lit [112, 97, 115, 116, 101])]).getD a0.1.toNat default, ⟨H⟩, ⟨rfl⟩, ?_⟩
        repeat refine mo1_LiftD4 ?_
        first | exact trivial | exact rfl
      · refine if_st H (fun h487 H => ?_) (fun h487 H => ?_)
        · refine ob_ck H fun h488 H => ?_
          refine ⟨(lit [99, 116, 114, 108, 45]) ++ a0.2.1, ⟨H⟩, ⟨rfl⟩, ?_⟩
          repeat refine mo1_LiftD4 ?_
          first | exact trivial | exact rfl
        · refine R.cut_fam H 40 [1] [] (fun v491 => [(28, bS v491)]) (fun v491 => []) [(0, .cells 51 [.v (.int .i64 (a0.1)), .v (.string (a0.2.1)), .v (.int .i64 (a0.2.2.1)), bS a0.2.2.2.1, bS a0.2.2.2.2.1, bS a0.2.2.2.2.2]), (5, .cells 51 [.v (.int .i64 (a0.1)), .v (.string (a0.2.1)), .v (.int .i64 (a0.2.2.1)), bS a0.2.2.2.1, bS a0.2.2.2.2.1, bS a0.2.2.2.2.2]), (7, .arr 9 1 (17) (es ([(lit []), (lit [116, 101, 120, 116]), (lit [101, 110, 116, 101, 114]), (lit [116, 97, 98]), (lit [98, 97, 99, 107, 116, 97, 98]), (lit [101, 115, 99, 97, 112, 101]), (lit [98, 97, 99, 107, 115, 112, 97, 99, 101]), (lit [100, 101, 108, 101, 116, 101]), (lit [117, 112]), (lit [100, 111, 119, 110]), (lit [108, 101, 102, 116]), (lit [114, 105, 103, 104, 116]), (lit [104, 111, 109, 101]), (lit [101, 110, 100]), (lit [112, 97, 103, 101, 117, 112]), (lit [112, 97, 103, 101, 100, 111, 119, 110]), (lit [112, 97, 115, 116, 101])])))] 0 (fun H => ?_)
          refine And.intro ?_ ?_
          · refine if_st H (fun h493 H => ?_) (fun h493 H => ?_)
            · refine if_st H (fun h494 H => ?_) (fun h494 H => ?_)
              · refine ⟨(decide (a0.2.2.1 ≤ 12)), ⟨H⟩, ⟨rfl⟩, ?_⟩
                repeat refine mo1_LiftD4 ?_
                first | exact trivial | exact rfl
              · refine ⟨false, ⟨H⟩, ⟨rfl⟩, ?_⟩
                repeat refine mo1_LiftD4 ?_
                first | exact trivial | exact rfl
            · refine ⟨false, ⟨H⟩, ⟨rfl⟩, ?_⟩
              repeat refine mo1_LiftD4 ?_
              first | exact trivial | exact rfl
          · intro v491 H
            refine if_st H (fun h495 H => ?_) (fun h495 H => ?_)
            · refine ob_ck H fun h496 H => ?_
              refine ob_ck H fun h497 H => ?_
              refine ob_str (l := [IntKind.wrap .u8 ((48 + a0.2.2.1) - 10)]) H fun h498 H => ?_
              refine ob_ck H fun h499 H => ?_
              refine ⟨(lit [102, 49]) ++ (strOf ([IntKind.wrap .u8 ((48 + a0.2.2.1) - 10)])), ⟨H⟩, ⟨rfl⟩, ?_⟩
              repeat refine mo1_LiftD4 ?_
              first | exact trivial | exact rfl
            · refine R.cut_fam H 55 [1] [] (fun v502 => [(50, bS v502)]) (fun v502 => []) [(0, .cells 51 [.v (.int .i64 (a0.1)), .v (.string (a0.2.1)), .v (.int .i64 (a0.2.2.1)), bS a0.2.2.2.1, bS a0.2.2.2.2.1, bS a0.2.2.2.2.2]), (5, .cells 51 [.v (.int .i64 (a0.1)), .v (.string (a0.2.1)), .v (.int .i64 (a0.2.2.1)), bS a0.2.2.2.1, bS a0.2.2.2.2.1, bS a0.2.2.2.2.2]), (7, .arr 9 1 (17) (es ([(lit []), (lit [116, 101, 120, 116]), (lit [101, 110, 116, 101, 114]), (lit [116, 97, 98]), (lit [98, 97, 99, 107, 116, 97, 98]), (lit [101, 115, 99, 97, 112, 101]), (lit [98, 97, 99, 107, 115, 112, 97, 99, 101]), (lit [100, 101, 108, 101, 116, 101]), (lit [117, 112]), (lit [100, 111, 119, 110]), (lit [108, 101, 102, 116]), (lit [114, 105, 103, 104, 116]), (lit [104, 111, 109, 101]), (lit [101, 110, 100]), (lit [112, 97, 103, 101, 117, 112]), (lit [112, 97, 103, 101, 100, 111, 119, 110]), (lit [112, 97, 115, 116, 101])])))] 0 (fun H => ?_)
              refine And.intro ?_ ?_
              · refine if_st H (fun h504 H => ?_) (fun h504 H => ?_)
                · refine if_st H (fun h505 H => ?_) (fun h505 H => ?_)
                  · refine ⟨(decide (a0.2.2.1 ≤ 9)), ⟨H⟩, ⟨rfl⟩, ?_⟩
                    repeat refine mo1_LiftD4 ?_
                    first | exact trivial | exact rfl
                  · refine ⟨false, ⟨H⟩, ⟨rfl⟩, ?_⟩
                    repeat refine mo1_LiftD4 ?_
                    first | exact trivial | exact rfl
                · refine ⟨false, ⟨H⟩, ⟨rfl⟩, ?_⟩
                  repeat refine mo1_LiftD4 ?_
                  first | exact trivial | exact rfl
              · intro v502 H
                refine if_st H (fun h506 H => ?_) (fun h506 H => ?_)
                · refine ob_ck H fun h507 H => ?_
                  refine ob_str (l := [IntKind.wrap .u8 (48 + a0.2.2.1)]) H fun h508 H => ?_
                  refine ob_ck H fun h509 H => ?_
                  refine ⟨(lit [102]) ++ (strOf ([IntKind.wrap .u8 (48 + a0.2.2.1)])), ⟨H⟩, ⟨rfl⟩, ?_⟩
                  repeat refine mo1_LiftD4 ?_
                  first | exact trivial | exact rfl
                · refine ⟨(lit []), ⟨H⟩, ⟨rfl⟩, ?_⟩
                  repeat refine mo1_LiftD4 ?_
                  first | exact trivial | exact rfl
  · intro v479 H
    refine if_st H (fun h511 H => ?_) (fun h511 H => ?_)
    · have hfin := fin_st H
      repeat refine mf1_LiftD4 ?_
      first | exact trivial | exact rfl
    · refine if_st H (fun h514 H => ?_) (fun h514 H => ?_)
      · refine ob_ck H fun h515 H => ?_
        refine if_st H (fun h518 H => ?_) (fun h518 H => ?_)
        · refine ob_ck H fun h519 H => ?_
          refine if_st H (fun h522 H => ?_) (fun h522 H => ?_)
          · refine ob_ck H fun h523 H => ?_
            have hfin := fin_st H
            repeat refine mf1_LiftD4 ?_
            first | exact trivial | exact rfl
          · have hfin := fin_st H
            repeat refine mf1_LiftD4 ?_
            first | exact trivial | exact rfl
        · refine if_st H (fun h524 H => ?_) (fun h524 H => ?_)
          · refine ob_ck H fun h525 H => ?_
            have hfin := fin_st H
            repeat refine mf1_LiftD4 ?_
            first | exact trivial | exact rfl
          · have hfin := fin_st H
            repeat refine mf1_LiftD4 ?_
            first | exact trivial | exact rfl
      · refine if_st H (fun h526 H => ?_) (fun h526 H => ?_)
        · refine ob_ck H fun h527 H => ?_
          refine if_st H (fun h528 H => ?_) (fun h528 H => ?_)
          · refine ob_ck H fun h529 H => ?_
            have hfin := fin_st H
            repeat refine mf1_LiftD4 ?_
            first | exact trivial | exact rfl
          · have hfin := fin_st H
            repeat refine mf1_LiftD4 ?_
            first | exact trivial | exact rfl
        · refine if_st H (fun h530 H => ?_) (fun h530 H => ?_)
          · refine ob_ck H fun h531 H => ?_
            have hfin := fin_st H
            repeat refine mf1_LiftD4 ?_
            first | exact trivial | exact rfl
          · have hfin := fin_st H
            repeat refine mf1_LiftD4 ?_
            first | exact trivial | exact rfl

/-- placard/placardref07.base -/
noncomputable def g29 (a0 : (Int × ByteArray × Int × Bool × Bool × Bool)) : Option (ByteArray) :=
  jn (α := _) (β := Bool) (fun k568 =>
      if 1 ≤ a0.1 then
        k568 (decide (a0.1 < ((17 : Nat) : Int)))
      else
        k568 false
  ) (fun v567 =>
    if v567 = true then
      (
        ck (0 ≤ a0.1 ∧ a0.1 < ((17 : Nat) : Int)) <|
        some (([(lit []), (lit [116, 101, 120, 116]), (lit [101, 110, 116, 101, 114]), (lit [116, 97, 98]), (lit [98, 97, 99, 107, 116, 97, 98]), (lit [101, 115, 99, 97, 112, 101]), (lit [98, 97, 99, 107, 115, 112, 97, 99, 101]), (lit [100, 101, 108, 101, 116, 101]), (lit [117, 112]), (lit [100, 111, 119, 110]), (lit [108, 101, 102, 116]), (lit [114, 105, 103, 104, 116]), (lit [104, 111, 109, 101]), (lit [101, 110, 100]), (lit [112, 97, 103, 101, 117, 112]), (lit [112, 97, 103, 101, 100, 111, 119, 110]), (lit [112, 97, 115, 116, 101])]).getD a0.1.toNat default)
      )
    else
      (
        if a0.1 = 17 then
          (
            ck ((lit [99, 116, 114, 108, 45]).size + a0.2.1.size ≤ 9223372036854775807) <|
            some ((lit [99, 116, 114, 108, 45]) ++ a0.2.1)
          )
        else
          (
            jn (α := _) (β := Bool) (fun k577 =>
                if a0.1 = 18 then
                  (
                    if 10 ≤ a0.2.2.1 then
                      k577 (decide (a0.2.2.1 ≤ 12))
                    else
                      k577 false
                  )
                else
                  k577 false
            ) (fun v576 =>
              if v576 = true then
                (
                  ck (inR .i64 (48 + a0.2.2.1)) <|
                  ck (inR .i64 ((48 + a0.2.2.1) - 10)) <|
                  ck (isBytes ([IntKind.wrap .u8 ((48 + a0.2.2.1) - 10)])) <|
                  ck ((lit [102, 49]).size + (strOf ([IntKind.wrap .u8 ((48 + a0.2.2.1) - 10)])).size ≤ 9223372036854775807) <|
                  some ((lit [102, 49]) ++ (strOf ([IntKind.wrap .u8 ((48 + a0.2.2.1) - 10)])))
                )
              else
                (
                  jn (α := _) (β := Bool) (fun k588 =>
                      if a0.1 = 18 then
                        (
                          if 1 ≤ a0.2.2.1 then
                            k588 (decide (a0.2.2.1 ≤ 9))
                          else
                            k588 false
                        )
                      else
                        k588 false
                  ) (fun v587 =>
                    if v587 = true then
                      (
                        ck (inR .i64 (48 + a0.2.2.1)) <|
                        ck (isBytes ([IntKind.wrap .u8 (48 + a0.2.2.1)])) <|
                        ck ((lit [102]).size + (strOf ([IntKind.wrap .u8 (48 + a0.2.2.1)])).size ≤ 9223372036854775807) <|
                        some ((lit [102]) ++ (strOf ([IntKind.wrap .u8 (48 + a0.2.2.1)])))
                      )
                    else
                      some (lit [])
                  )
                )
            )
          )
      )
  )
noncomputable def k29 : Eng.CS := { f := 29, calm := true, more := 0, ι := (Int × ByteArray × Int × Bool × Bool × Bool) × ByteArray, ok := fun i => g29 i.1 = some i.2, rds := fun _ => [], args := fun i => [.w (.agg [.v (.int .i64 (i.1.1)), .v (.string (i.1.2.1)), .v (.int .i64 (i.1.2.2.1)), bS i.1.2.2.2.1, bS i.1.2.2.2.2.1, bS i.1.2.2.2.2.2])], res := fun i => .v (.string (i.2)) }
set_option maxRecDepth 60000 in
set_option maxHeartbeats 4000000 in
theorem k29_ok : CalmOk Tryd.prog k29 := by
  refine R.calmspec Tryd.func29 nm29 rfl ?_
  rintro ⟨a0, r⟩ hok q _ args hargs
  match args, hargs with
  | [_], hargs =>
  obtain ⟨rfl, _⟩ := hargs
  refine ⟨envC [] false [(29, 3), (29, 7), (29, 9)], 6, envC_ok (css_nil), rfl, (by intro x hx; simp only [List.mem_cons, List.not_mem_nil, or_false] at hx; rcases hx with rfl <;> rfl), ?_⟩
  have H : Gives (g29 a0) (fun a => a = r) := ⟨r, hok, rfl⟩
  unfold g29 at H
  clear hok
  refine R.cut_fam H 16 [1, 3] [] (fun v567 => [(5, bS v567)]) (fun v567 => []) [(0, .cells 51 [.v (.int .i64 (a0.1)), .v (.string (a0.2.1)), .v (.int .i64 (a0.2.2.1)), bS a0.2.2.2.1, bS a0.2.2.2.2.1, bS a0.2.2.2.2.2]), (2, .arr 9 1 (17) (es ([(lit []), (lit [116, 101, 120, 116]), (lit [101, 110, 116, 101, 114]), (lit [116, 97, 98]), (lit [98, 97, 99, 107, 116, 97, 98]), (lit [101, 115, 99, 97, 112, 101]), (lit [98, 97, 99, 107, 115, 112, 97, 99, 101]), (lit [100, 101, 108, 101, 116, 101]), (lit [117, 112]), (lit [100, 111, 119, 110]), (lit [108, 101, 102, 116]), (lit [114, 105, 103, 104, 116]), (lit [104, 111, 109, 101]), (lit [101, 110, 100]), (lit [112, 97, 103, 101, 117, 112]), (lit [112, 97, 103, 101, 100, 111, 119, 110]), (lit [112, 97, 115, 116, 101])])))] 0 (fun H => ?_)
  refine And.intro ?_ ?_
  · refine if_st H (fun h569 H => ?_) (fun h569 H => ?_)
    · refine ⟨(decide (a0.1 < ((17 : Nat) : Int))), ⟨H⟩, ⟨rfl⟩, ?_⟩
      repeat refine mo1_LiftD4 ?_
      first | exact trivial | exact rfl
    · refine ⟨false, ⟨H⟩, ⟨rfl⟩, ?_⟩
      repeat refine mo1_LiftD4 ?_
      first | exact trivial | exact rfl
  · intro v567 H
    refine if_st H (fun h570 H => ?_) (fun h570 H => ?_)
    · refine ob_ck H fun h571 H => ?_
      refine ld_str (e := ([(lit []), (lit [116, 101, 120, 116]), (lit [101, 110, 116, 101, 114]), (lit [116, 97, 98]), (lit [98, 97, 99, 107, 116, 97, 98]), (lit [101, 115, 99, 97, 112, 101]), (lit [98, 97, 99, 107, 115, 112, 97, 99, 101]), (lit [100, 101, 108, 101, 116, 101]), (lit [117, 112]), (lit [100, 111, 119, 110]), (lit [108, 101, 102, 116]), (lit [114, 105, 103, 104, 116]), (lit [104, 111, 109, 101]), (lit [101, 110, 100]), (lit [112, 97, 103, 101, 117, 112]), (lit [112, 97, 103, 101, 100, 111, 119, 110]), (lit [112, 97, 115, 116, 101])]).getD a0.1.toNat default) (own_get (ys := es ([(lit []), (lit [116, 101, 120, 116]), (lit [101, 110, 116, 101, 114]), (lit [116, 97, 98]), (lit [98, 97, 99, 107, 116, 97, 98]), (lit [101, 115, 99, 97, 112, 101]), (lit [98, 97, 99, 107, 115, 112, 97, 99, 101]), (lit [100, 101, 108, 101, 116, 101]), (lit [117, 112]), (lit [100, 111, 119, 110]), (lit [108, 101, 102, 116]), (lit [114, 105, 103, 104, 116]), (lit [104, 111, 109, 101]), (lit [101, 110, 100]), (lit [112, 97, 103, 101, 117, 112]), (lit [112, 97, 103, 101, 100, 111, 119, 110]), (lit [112, 97, 115, 116, 101])])) (by first | rfl | simp [ei, eb, es, ec, c51]) (es_get (l := [(lit []), (lit [116, 101, 120, 116]), (lit [101, 110, 116, 101, 114]), (lit [116, 97, 98]), (lit [98, 97, 99, 107, 116, 97, 98]), (lit [101, 115, 99, 97, 112, 101]), (lit [98, 97, 99, 107, 115, 112, 97, 99, 101]), (lit [100, 101, 108, 101, 116, 101]), (lit [117, 112]), (lit [100, 111, 119, 110]), (lit [108, 101, 102, 116]), (lit [114, 105, 103, 104, 116]), (lit [104, 111, 109, 101]), (lit [101, 110, 100]), (lit [112, 97, 103, 101, 117, 112]), (lit [112, 97, 103, 101, 100, 111, 119, 110]), (lit [112, 97, 115, 116, 101])]) (by first | exact tn h571 | (have := tn h571; simp at this ⊢; omega) | (have := tn h571; simp; omega)))) ?_
      have hfin := fin_st H
      repeat refine mf1_LiftD4 ?_
      first | exact trivial | exact rfl
    · refine if_st H (fun h572 H => ?_) (fun h572 H => ?_)
      · refine ob_ck H fun h573 H => ?_
        have hfin := fin_st H
        repeat refine mf1_LiftD4 ?_
        first | exact trivial | exact rfl
      · refine R.cut_fam H 35 [1] [] (fun v576 => [(28, bS v576)]) (fun v576 => []) [(0, .cells 51 [.v (.int .i64 (a0.1)), .v (.string (a0.2.1)), .v (.int .i64 (a0.2.2.1)), bS a0.2.2.2.1, bS a0.2.2.2.2.1, bS a0.2.2.2.2.2]), (2, .arr 9 1 (17) (es ([(lit []), (lit [116, 101, 120, 116]), (lit [101, 110, 116, 101, 114]), (lit [116, 97, 98]), (lit [98, 97, 99, 107, 116, 97, 98]), (lit [101, 115, 99, 97, 112, 101]), (lit [98, 97, 99, 107, 115, 112, 97, 99, 101]), (lit [100, 101, 108, 101, 116, 101]), (lit [117, 112]), (lit [100, 111, 119, 110]), (lit [108, 101, 102, 116]), (lit [114, 105, 103, 104, 116]), (lit [104, 111, 109, 101]), (lit [101, 110, 100]), (lit [112, 97, 103, 101, 117, 112]), (lit [112, 97, 103, 101, 100, 111, 119, 110]), (lit [112, 97, 115, 116, 101])])))] 0 (fun H => ?_)
        refine And.intro ?_ ?_
        · refine if_st H (fun h578 H => ?_) (fun h578 H => ?_)
          · refine if_st H (fun h579 H => ?_) (fun h579 H => ?_)
            · refine ⟨(decide (a0.2.2.1 ≤ 12)), ⟨H⟩, ⟨rfl⟩, ?_⟩
              repeat refine mo1_LiftD4 ?_
              first | exact trivial | exact rfl
            · refine ⟨false, ⟨H⟩, ⟨rfl⟩, ?_⟩
              repeat refine mo1_LiftD4 ?_
              first | exact trivial | exact rfl
          · refine ⟨false, ⟨H⟩, ⟨rfl⟩, ?_⟩
            repeat refine mo1_LiftD4 ?_
            first | exact trivial | exact rfl
        · intro v576 H
          refine if_st H (fun h580 H => ?_) (fun h580 H => ?_)
          · refine ob_ck H fun h581 H => ?_
            refine ob_ck H fun h582 H => ?_
            refine ob_str (l := [IntKind.wrap .u8 ((48 + a0.2.2.1) - 10)]) H fun h583 H => ?_
            refine ob_ck H fun h584 H => ?_
            have hfin := fin_st H
            repeat refine mf1_LiftD4 ?_
            first | exact trivial | exact rfl
          · refine R.cut_fam H 50 [1] [] (fun v587 => [(50, bS v587)]) (fun v587 => []) [(0, .cells 51 [.v (.int .i64 (a0.1)), .v (.string (a0.2.1)), .v (.int .i64 (a0.2.2.1)), bS a0.2.2.2.1, bS a0.2.2.2.2.1, bS a0.2.2.2.2.2]), (2, .arr 9 1 (17) (es ([(lit []), (lit [116, 101, 120, 116]), (lit [101, 110, 116, 101, 114]), (lit [116, 97, 98]), (lit [98, 97, 99, 107, 116, 97, 98]), (lit [101, 115, 99, 97, 112, 101]), (lit [98, 97, 99, 107, 115, 112, 97, 99, 101]), (lit [100, 101, 108, 101, 116, 101]), (lit [117, 112]), (lit [100, 111, 119, 110]), (lit [108, 101, 102, 116]), (lit [114, 105, 103, 104, 116]), (lit [104, 111, 109, 101]), (lit [101, 110, 100]), (lit [112, 97, 103, 101, 117, 112]), (lit [112, 97, 103, 101, 100, 111, 119, 110]), (lit [112, 97, 115, 116, 101])])))] 0 (fun H => ?_)
            refine And.intro ?_ ?_
            · refine if_st H (fun h589 H => ?_) (fun h589 H => ?_)
              · refine if_st H (fun h590 H => ?_) (fun h590 H => ?_)
                · refine ⟨(decide (a0.2.2.1 ≤ 9)), ⟨H⟩, ⟨rfl⟩, ?_⟩
                  repeat refine mo1_LiftD4 ?_
                  first | exact trivial | exact rfl
                · refine ⟨false, ⟨H⟩, ⟨rfl⟩, ?_⟩
                  repeat refine mo1_LiftD4 ?_
                  first | exact trivial | exact rfl
              · refine ⟨false, ⟨H⟩, ⟨rfl⟩, ?_⟩
                repeat refine mo1_LiftD4 ?_
                first | exact trivial | exact rfl
            · intro v587 H
              refine if_st H (fun h591 H => ?_) (fun h591 H => ?_)
              · refine ob_ck H fun h592 H => ?_
                refine ob_str (l := [IntKind.wrap .u8 (48 + a0.2.2.1)]) H fun h593 H => ?_
                refine ob_ck H fun h594 H => ?_
                have hfin := fin_st H
                repeat refine mf1_LiftD4 ?_
                first | exact trivial | exact rfl
              · have hfin := fin_st H
                repeat refine mf1_LiftD4 ?_
                first | exact trivial | exact rfl

/-- placard/keyin.Name -/
noncomputable def g21 (a0 : (Int × ByteArray × Int × Bool × Bool × Bool)) : Option (ByteArray) :=
  (g28 (a0.1, a0.2.1, a0.2.2.1, a0.2.2.2.1, a0.2.2.2.2.1, a0.2.2.2.2.2)).bind fun v595 =>
  if v595.data.toList = (lit []).data.toList then
    some (lit [])
  else
    (
      if a0.2.2.2.2.1 = true then
        (
          ck ((lit [115, 104, 105, 102, 116, 45]).size + v595.size ≤ 9223372036854775807) <|
          if a0.2.2.2.2.2 = true then
            (
              ck ((lit [99, 116, 108, 45]).size + ((lit [115, 104, 105, 102, 116, 45]) ++ v595).size ≤ 9223372036854775807) <|
              if a0.2.2.2.1 = true then
                (
                  ck ((lit [97, 108, 116, 45]).size + ((lit [99, 116, 108, 45]) ++ ((lit [115, 104, 105, 102, 116, 45]) ++ v595)).size ≤ 9223372036854775807) <|
                  some ((lit [97, 108, 116, 45]) ++ ((lit [99, 116, 108, 45]) ++ ((lit [115, 104, 105, 102, 116, 45]) ++ v595)))
                )
              else
                some ((lit [99, 116, 108, 45]) ++ ((lit [115, 104, 105, 102, 116, 45]) ++ v595))
            )
          else
            (
              if a0.2.2.2.1 = true then
                (
                  ck ((lit [97, 108, 116, 45]).size + ((lit [115, 104, 105, 102, 116, 45]) ++ v595).size ≤ 9223372036854775807) <|
                  some ((lit [97, 108, 116, 45]) ++ ((lit [115, 104, 105, 102, 116, 45]) ++ v595))
                )
              else
                some ((lit [115, 104, 105, 102, 116, 45]) ++ v595)
            )
        )
      else
        (
          if a0.2.2.2.2.2 = true then
            (
              ck ((lit [99, 116, 108, 45]).size + v595.size ≤ 9223372036854775807) <|
              if a0.2.2.2.1 = true then
                (
                  ck ((lit [97, 108, 116, 45]).size + ((lit [99, 116, 108, 45]) ++ v595).size ≤ 9223372036854775807) <|
                  some ((lit [97, 108, 116, 45]) ++ ((lit [99, 116, 108, 45]) ++ v595))
                )
              else
                some ((lit [99, 116, 108, 45]) ++ v595)
            )
          else
            (
              if a0.2.2.2.1 = true then
                (
                  ck ((lit [97, 108, 116, 45]).size + v595.size ≤ 9223372036854775807) <|
                  some ((lit [97, 108, 116, 45]) ++ v595)
                )
              else
                some v595
            )
        )
    )
noncomputable def k21 : Eng.CS := { f := 21, calm := true, more := 0, ι := (Int × ByteArray × Int × Bool × Bool × Bool) × ByteArray, ok := fun i => g21 i.1 = some i.2, rds := fun _ => [], args := fun i => [.w (.agg [.v (.int .i64 (i.1.1)), .v (.string (i.1.2.1)), .v (.int .i64 (i.1.2.2.1)), bS i.1.2.2.2.1, bS i.1.2.2.2.2.1, bS i.1.2.2.2.2.2])], res := fun i => .v (.string (i.2)) }
set_option maxRecDepth 8000 in
set_option maxHeartbeats 4000000 in
theorem k21_ok : CalmOk Tryd.prog k21 := by
  refine R.calmspec Tryd.func21 nm21 rfl ?_
  rintro ⟨a0, r⟩ hok q _ args hargs
  match args, hargs with
  | [_], hargs =>
  obtain ⟨rfl, _⟩ := hargs
  refine ⟨envC [k28] false [], 6, envC_ok (css_cons ⟨fun _ => k28_ok, fun h => (by cases h)⟩ (css_nil)), rfl, (by intro x hx; simp only [List.mem_cons, List.not_mem_nil, or_false] at hx; rcases hx with rfl <;> rfl), ?_⟩
  have H : Gives (g21 a0) (fun a => a = r) := ⟨r, hok, rfl⟩
  unfold g21 at H
  clear hok
  obtain ⟨v595, hv596, H⟩ := call_st H
  refine ⟨((a0.1, a0.2.1, a0.2.2.1, a0.2.2.2.1, a0.2.2.2.2.1, a0.2.2.2.2.2), v595), ⟨hv596⟩, ⟨trivial⟩, ?_⟩
  refine mo1_LiftD4 ?_
  refine mo1_LiftD4 ?_
  refine mo1_LiftD4 ?_
  refine mo1_LiftD4 ?_
  refine mo1_LiftD4 ?_
  refine mo1_LiftD4 ?_
  refine if_st H (fun h598 H => ?_) (fun h598 H => ?_)
  · have hfin := fin_st H
    repeat refine mf1_LiftD4 ?_
    first | exact trivial | exact rfl
  · refine if_st H (fun h601 H => ?_) (fun h601 H => ?_)
    · refine ob_ck H fun h602 H => ?_
      refine if_st H (fun h605 H => ?_) (fun h605 H => ?_)
      · refine ob_ck H fun h606 H => ?_
        refine if_st H (fun h609 H => ?_) (fun h609 H => ?_)
        · refine ob_ck H fun h610 H => ?_
          have hfin := fin_st H
          repeat refine mf1_LiftD4 ?_
          first | exact trivial | exact rfl
        · have hfin := fin_st H
          repeat refine mf1_LiftD4 ?_
          first | exact trivial | exact rfl
      · refine if_st H (fun h611 H => ?_) (fun h611 H => ?_)
        · refine ob_ck H fun h612 H => ?_
          have hfin := fin_st H
          repeat refine mf1_LiftD4 ?_
          first | exact trivial | exact rfl
        · have hfin := fin_st H
          repeat refine mf1_LiftD4 ?_
          first | exact trivial | exact rfl
    · refine if_st H (fun h613 H => ?_) (fun h613 H => ?_)
      · refine ob_ck H fun h614 H => ?_
        refine if_st H (fun h615 H => ?_) (fun h615 H => ?_)
        · refine ob_ck H fun h616 H => ?_
          have hfin := fin_st H
          repeat refine mf1_LiftD4 ?_
          first | exact trivial | exact rfl
        · have hfin := fin_st H
          repeat refine mf1_LiftD4 ?_
          first | exact trivial | exact rfl
      · refine if_st H (fun h617 H => ?_) (fun h617 H => ?_)
        · refine ob_ck H fun h618 H => ?_
          have hfin := fin_st H
          repeat refine mf1_LiftD4 ?_
          first | exact trivial | exact rfl
        · have hfin := fin_st H
          repeat refine mf1_LiftD4 ?_
          first | exact trivial | exact rfl

/-- (*placard/keyin.Decoder).Waits -/
noncomputable def g11 (a0 : (List Int × Bool × List Int × Int × Bool)) : Option (Int) :=
  if ¬ (a0.2.2.2.2 = true) then
    some 0
  else
    (
      if a0.2.1 = true then
        (
          ck (inR .i64 (((a0.2.2.1.length : Nat) : Int) + a0.2.2.2.1)) <|
          some (gmin (((a0.2.2.1.length : Nat) : Int) + a0.2.2.2.1) 65541)
        )
      else
        some ((a0.1.length : Nat) : Int)
    )
noncomputable def k11 : Eng.CS := { f := 11, calm := true, more := 0, ι := (List Int × Bool × List Int × Int × Bool) × Int, ok := fun i => g11 i.1 = some i.2, rds := fun _ => [], args := fun i => [.pt [.row 1 i.1.1.length (ei .u8 i.1.1), .w (.bool i.1.2.1), .row 1 i.1.2.2.1.length (ei .u8 i.1.2.2.1), .w (.int .i64 i.1.2.2.2.1), .w (.bool i.1.2.2.2.2)]], res := fun i => .v (.int .i64 (i.2)) }
set_option maxRecDepth 8000 in
set_option maxHeartbeats 4000000 in
theorem k11_ok : CalmOk Tryd.prog k11 := by
  refine R.calmspec Tryd.func11 nm11 rfl ?_
  rintro ⟨a0, r⟩ hok q _ args hargs
  dsimp only [k11] at hargs ⊢
  match args, hargs with
  | [_], hargs =>
  obtain ⟨⟨P0, us0, rfl, hs0, _, hR0, hpc0⟩, _⟩ := hargs
  match us0, hR0, hpc0 with
  | [_, _, _, _, _], hR0, hpc0 =>
  obtain ⟨⟨A0_0, c0_0, rfl, hcr0_0, _, hRr0_0⟩, rfl, ⟨A0_2, c0_2, rfl, hcr0_2, _, hRr0_2⟩, rfl, rfl, _⟩ := hpc0
  refine ⟨envC [] false [], 6, envC_ok (css_nil), rfl, (by intro x hx; simp only [List.mem_cons, List.not_mem_nil, or_false] at hx; rcases hx with rfl <;> rfl), ?_⟩
  have H : Gives (g11 a0) (fun a => a = r) := ⟨r, hok, rfl⟩
  unfold g11 at H
  clear hok
  refine ob_nc ?_
  refine ld_bool (e := a0.2.2.2.2) (rd_get hR0 rfl) ?_
  refine if_st H (fun h620 H => ?_) (fun h620 H => ?_)
  · have hfin := fin_st H
    repeat refine mf1_LiftD4 ?_
    first | exact trivial | exact rfl
  · refine ob_nc ?_
    refine ld_bool (e := a0.2.1) (rd_get hR0 rfl) ?_
    refine if_st H (fun h623 H => ?_) (fun h623 H => ?_)
    · refine And.intro ⟨by kernel_rfl⟩ ?_
      refine ob_nc ?_
      refine ld_sl (A := A0_2) (n := a0.2.2.1.length) (c := c0_2) (rd_get hR0 rfl) ?_
      refine ob_nc ?_
      refine ld_int (e := a0.2.2.2.1) (rd_get hR0 rfl) ?_
      refine ob_ck H fun h624 H => ?_
      have hfin := fin_st H
      repeat refine mf1_LiftD4 ?_
      first | exact trivial | exact rfl
    · refine ob_nc ?_
      refine ld_sl (A := A0_0) (n := a0.1.length) (c := c0_0) (rd_get hR0 rfl) ?_
      have hfin := fin_st H
      repeat refine mf1_LiftD4 ?_
      first | exact trivial | exact rfl

/-- (*placard/keyin.Decoder).Pasting -/
noncomputable def g20 (a0 : (List Int × Bool × List Int × Int × Bool)) : Option (Bool) :=
  if a0.2.2.2.2 = true then
    some a0.2.1
  else
    some false
noncomputable def k20 : Eng.CS := { f := 20, calm := true, more := 0, ι := (List Int × Bool × List Int × Int × Bool) × Bool, ok := fun i => g20 i.1 = some i.2, rds := fun _ => [], args := fun i => [.pt [.row 1 i.1.1.length (ei .u8 i.1.1), .w (.bool i.1.2.1), .row 1 i.1.2.2.1.length (ei .u8 i.1.2.2.1), .w (.int .i64 i.1.2.2.2.1), .w (.bool i.1.2.2.2.2)]], res := fun i => bS i.2 }
set_option maxRecDepth 8000 in
set_option maxHeartbeats 4000000 in
theorem k20_ok : CalmOk Tryd.prog k20 := by
  refine R.calmspec Tryd.func20 nm20 rfl ?_
  rintro ⟨a0, r⟩ hok q _ args hargs
  dsimp only [k20] at hargs ⊢
  match args, hargs with
  | [_], hargs =>
  obtain ⟨⟨P0, us0, rfl, hs0, _, hR0, hpc0⟩, _⟩ := hargs
  match us0, hR0, hpc0 with
  | [_, _, _, _, _], hR0, hpc0 =>
  obtain ⟨⟨A0_0, c0_0, rfl, hcr0_0, _, hRr0_0⟩, rfl, ⟨A0_2, c0_2, rfl, hcr0_2, _, hRr0_2⟩, rfl, rfl, _⟩ := hpc0
  refine ⟨envC [] false [], 6, envC_ok (css_nil), rfl, (by intro x hx; simp only [List.mem_cons, List.not_mem_nil, or_false] at hx; rcases hx with rfl <;> rfl), ?_⟩
  have H : Gives (g20 a0) (fun a => a = r) := ⟨r, hok, rfl⟩
  unfold g20 at H
  clear hok
  refine ob_nc ?_
  refine ld_bool (e := a0.2.2.2.2) (rd_get hR0 rfl) ?_
  refine if_st H (fun h625 H => ?_) (fun h625 H => ?_)
  · refine ob_nc ?_
    refine ld_bool (e := a0.2.1) (rd_get hR0 rfl) ?_
    have hfin := fin_st H
    repeat refine mf1_LiftD4 ?_
    first | exact trivial | exact rfl
  · have hfin := fin_st H
    repeat refine mf1_LiftD4 ?_
    first | exact trivial | exact rfl

/-- (*placard/keyin.Decoder).Tick -/
noncomputable def g15 (a0 : (List Int × Bool × List Int × Int × Bool)) : Option (List (Int × ByteArray × Int × Bool × Bool × Bool) × (List Int × Bool × List Int × Int × Bool)) :=
  if ¬ (a0.2.2.2.2 = true) then
    some (([] : List (Int × ByteArray × Int × Bool × Bool × Bool)), (a0.1, a0.2.1, a0.2.2.1, a0.2.2.2.1, a0.2.2.2.2))
  else
    (
      if a0.2.1 = true then
        some (([] : List (Int × ByteArray × Int × Bool × Bool × Bool)), (a0.1, a0.2.1, a0.2.2.1, a0.2.2.2.1, a0.2.2.2.2))
      else
        (
          if ((a0.1.length : Nat) : Int) = 0 then
            some (([] : List (Int × ByteArray × Int × Bool × Bool × Bool)), (a0.1, a0.2.1, a0.2.2.1, a0.2.2.2.1, a0.2.2.2.2))
          else
            (
              ck (isBytes a0.1) <|
              if (strOf a0.1).data.toList = (lit [27]).data.toList then
                some ([(5, (⟨#[]⟩ : ByteArray), 0, false, false, false)], (([] : List Int), a0.2.1, a0.2.2.1, a0.2.2.2.1, a0.2.2.2.2))
              else
                (
                  if (strOf a0.1).data.toList = (lit [27, 91]).data.toList then
                    (
                      if (strOf a0.1).data.toList = (lit [27, 91]).data.toList then
                        (
                          ck (0 ≤ (1 : Int) ∧ (1 : Int) ≤ ((strOf a0.1).size : Int) ∧ ((strOf a0.1).size : Int) ≤ ((strOf a0.1).size : Int)) <|
                          some ([(1, (strOf a0.1).extract (1 : Int).toNat ((strOf a0.1).size : Int).toNat, 0, true, false, false)], (([] : List Int), a0.2.1, a0.2.2.1, a0.2.2.2.1, a0.2.2.2.2))
                        )
                      else
                        some (([] : List (Int × ByteArray × Int × Bool × Bool × Bool)), (([] : List Int), a0.2.1, a0.2.2.1, a0.2.2.2.1, a0.2.2.2.2))
                    )
                  else
                    (
                      if (strOf a0.1).data.toList = (lit [27, 79]).data.toList then
                        (
                          ck (0 ≤ (1 : Int) ∧ (1 : Int) ≤ ((strOf a0.1).size : Int) ∧ ((strOf a0.1).size : Int) ≤ ((strOf a0.1).size : Int)) <|
                          some ([(1, (strOf a0.1).extract (1 : Int).toNat ((strOf a0.1).size : Int).toNat, 0, true, false, false)], (([] : List Int), a0.2.1, a0.2.2.1, a0.2.2.2.1, a0.2.2.2.2))
                        )
                      else
                        some (([] : List (Int × ByteArray × Int × Bool × Bool × Bool)), (([] : List Int), a0.2.1, a0.2.2.1, a0.2.2.2.1, a0.2.2.2.2))
                    )
                )
            )
        )
    )
noncomputable def k15 : Eng.CS := { f := 15, calm := false, more := 6, ι := (List Int × Bool × List Int × Int × Bool) × (List (Int × ByteArray × Int × Bool × Bool × Bool) × (List Int × Bool × List Int × Int × Bool)), ok := fun i => g15 i.1 = some i.2, rds := fun _ => [], args := fun i => [.w (.lp 0 0)], res := fun i => .own 5, L' := fun i => [(0, .cells 55 [.own 3, bS i.2.2.2.1, .own 4, .v (.int .i64 (i.2.2.2.2.2.1)), bS i.2.2.2.2.2.2]), (3, .arr 5 1 i.2.2.1.length (ei .u8 i.2.2.1)), (4, .arr 5 1 i.2.2.2.2.1.length (ei .u8 i.2.2.2.2.1)), (5, .arr 51 6 i.2.1.length (ec c51 i.2.1))], rn := [(100000, 0, 5, 1), (100000, 2, 5, 1), (0, 0, 51, 6)], keys := 3, L := fun i => [(0, .cells 55 [.own 1, bS i.1.2.1, .own 2, .v (.int .i64 (i.1.2.2.2.1)), bS i.1.2.2.2.2]), (1, .arr 5 1 i.1.1.length (ei .u8 i.1.1)), (2, .arr 5 1 i.1.2.2.1.length (ei .u8 i.1.2.2.1))] }
set_option maxRecDepth 8000 in
set_option maxHeartbeats 4000000 in
theorem k15_ok : CSOk Tryd.prog k15 := by
  refine R.cspec Tryd.func15 nm15 rfl ?_
  rintro ⟨a0, r⟩ hok q _ args hargs
  dsimp only [k15] at hargs ⊢
  match args, hargs with
  | [_], hargs =>
  obtain ⟨rfl, _⟩ := hargs
  refine ⟨envC [] false [], 6, envC_ok (css_nil), ?_⟩
  have H : Gives (g15 a0) (fun a => a = r) := ⟨r, hok, rfl⟩
  unfold g15 at H
  clear hok
  refine if_st H (fun h631 H => ?_) (fun h631 H => ?_)
  · have hfin := fin_st H
    repeat refine mf1_LiftD4 ?_
    first | exact trivial | exact rfl
  · refine if_st H (fun h632 H => ?_) (fun h632 H => ?_)
    · have hfin := fin_st H
      repeat refine mf1_LiftD4 ?_
      first | exact trivial | exact rfl
    · refine if_st H (fun h633 H => ?_) (fun h633 H => ?_)
      · have hfin := fin_st H
        repeat refine mf1_LiftD4 ?_
        first | exact trivial | exact rfl
      · refine ob_str (l := a0.1) H fun h634 H => ?_
        refine if_st H (fun h642 H => ?_) (fun h642 H => ?_)
        · have hfin := fin_st H
          repeat refine mf1_LiftD4 ?_
          first | exact trivial | exact rfl
        · refine if_st H (fun h643 H => ?_) (fun h643 H => ?_)
          · refine if_st H (fun h644 H => ?_) (fun h644 H => ?_)
            · refine ob_ck H fun h645 H => ?_
              have hfin := fin_st H
              repeat refine mf1_LiftD4 ?_
              first | exact trivial | exact rfl
            · have hfin := fin_st H
              repeat refine mf1_LiftD4 ?_
              first | exact trivial | exact rfl
          · refine if_st H (fun h646 H => ?_) (fun h646 H => ?_)
            · refine ob_ck H fun h647 H => ?_
              have hfin := fin_st H
              repeat refine mf1_LiftD4 ?_
              first | exact trivial | exact rfl
            · have hfin := fin_st H
              repeat refine mf1_LiftD4 ?_
              first | exact trivial | exact rfl

/-- (*placard/keyin.Decoder).Feed -/
noncomputable def g9 (a0 : (List Int × Bool × List Int × Int × Bool)) (a1 : List Int) : Option (List (Int × ByteArray × Int × Bool × Bool × Bool) × (List Int × Bool × List Int × Int × Bool)) :=
  if ¬ (a0.2.2.2.2 = true) then
    some (([] : List (Int × ByteArray × Int × Bool × Bool × Bool)), (a0.1, a0.2.1, a0.2.2.1, a0.2.2.2.1, a0.2.2.2.2))
  else
    (
      jn (α := _) (β := List Int × Bool × List Int × Int × List (Int × ByteArray × Int × Bool × Bool × Bool)) (fun k1705 =>
          (loopO (σ := List Int × Bool × List Int × Int × List (Int × ByteArray × Int × Bool × Bool × Bool) × Int) (ρ := List Int × Bool × List Int × Int × List (Int × ByteArray × Int × Bool × Bool × Bool)) (fun s1708 =>
              if s1708.2.2.2.2.2 < ((a1.length : Nat) : Int) then
                (
                  ck (0 ≤ s1708.2.2.2.2.2 ∧ s1708.2.2.2.2.2 < ((a1.length : Nat) : Int)) <|
                  if s1708.2.1 = true then
                    (
                      ck (0 ≤ s1708.2.2.2.1 ∧ s1708.2.2.2.1 < ((lit [27, 91, 50, 48, 49, 126]).size : Int)) <|
                      if (a1.getD s1708.2.2.2.2.2.toNat 0) = (((lit [27, 91, 50, 48, 49, 126]).data.toList[s1708.2.2.2.1.toNat]?.getD 0).toNat : Int) then
                        (
                          ck (inR .i64 (s1708.2.2.2.1 + 1)) <|
                          if (s1708.2.2.2.1 + 1) < 6 then
                            (
                              ck ((s1708.2.2.2.2.1.length + 0) * 40 ≤ 140737488355328) <|
                              ck (inR .i64 (s1708.2.2.2.2.2 + 1)) <|
                              some (.go (s1708.1, s1708.2.1, s1708.2.2.1, s1708.2.2.2.1 + 1, (s1708.2.2.2.2.1 ++ []), s1708.2.2.2.2.2 + 1))
                            )
                          else
                            (
                              ck (0 ≤ (0 : Int) ∧ (0 : Int) ≤ gmin ((s1708.2.2.1.length : Nat) : Int) 65536 ∧ gmin ((s1708.2.2.1.length : Nat) : Int) 65536 ≤ ((s1708.2.2.1.length : Nat) : Int)) <|
                              (g39 ((s1708.2.2.1.drop ((0 : Int).toNat)).take ((gmin ((s1708.2.2.1.length : Nat) : Int) 65536).toNat - (0 : Int).toNat))).bind fun v2221 =>
                              ck ((s1708.2.2.2.2.1.length + 1) * 40 ≤ 140737488355328) <|
                              ck (inR .i64 (s1708.2.2.2.2.2 + 1)) <|
                              some (.go (s1708.1, false, [], 0, (s1708.2.2.2.2.1 ++ [(16, v2221, 0, false, false, false)]), s1708.2.2.2.2.2 + 1))
                            )
                        )
                      else
                        (
                          ck (0 ≤ (0 : Int) ∧ (0 : Int) ≤ s1708.2.2.2.1 ∧ s1708.2.2.2.1 ≤ ((lit [27, 91, 50, 48, 49, 126]).size : Int)) <|
                          ck (inR .i64 (65542 - ((s1708.2.2.1.length : Nat) : Int))) <|
                          ck (0 ≤ (0 : Int) ∧ (0 : Int) ≤ gmax 0 (gmin (65542 - ((s1708.2.2.1.length : Nat) : Int)) (((lit [27, 91, 50, 48, 49, 126]).extract (0 : Int).toNat s1708.2.2.2.1.toNat).size : Int)) ∧ gmax 0 (gmin (65542 - ((s1708.2.2.1.length : Nat) : Int)) (((lit [27, 91, 50, 48, 49, 126]).extract (0 : Int).toNat s1708.2.2.2.1.toNat).size : Int)) ≤ (((lit [27, 91, 50, 48, 49, 126]).extract (0 : Int).toNat s1708.2.2.2.1.toNat).size : Int)) <|
                          ck (s1708.2.2.1.length + (((lit [27, 91, 50, 48, 49, 126]).extract (0 : Int).toNat s1708.2.2.2.1.toNat).extract (0 : Int).toNat (gmax 0 (gmin (65542 - ((s1708.2.2.1.length : Nat) : Int)) (((lit [27, 91, 50, 48, 49, 126]).extract (0 : Int).toNat s1708.2.2.2.1.toNat).size : Int))).toNat).size ≤ 140737488355328) <|
                          ck (0 ≤ (0 : Int) ∧ 0 < ((lit [27, 91, 50, 48, 49, 126]).size : Int)) <|
                          if (a1.getD s1708.2.2.2.2.2.toNat 0) = (((lit [27, 91, 50, 48, 49, 126]).data.toList[(0 : Int).toNat]?.getD 0).toNat : Int) then
                            (
                              ck ((s1708.2.2.2.2.1.length + 0) * 40 ≤ 140737488355328) <|
                              ck (inR .i64 (s1708.2.2.2.2.2 + 1)) <|
                              some (.go (s1708.1, s1708.2.1, (s1708.2.2.1 ++ bytesOf (((lit [27, 91, 50, 48, 49, 126]).extract (0 : Int).toNat s1708.2.2.2.1.toNat).extract (0 : Int).toNat (gmax 0 (gmin (65542 - ((s1708.2.2.1.length : Nat) : Int)) (((lit [27, 91, 50, 48, 49, 126]).extract (0 : Int).toNat s1708.2.2.2.1.toNat).size : Int))).toNat)), 1, (s1708.2.2.2.2.1 ++ []), s1708.2.2.2.2.2 + 1))
                            )
                          else
                            (
                              ck (isBytes ([a1.getD s1708.2.2.2.2.2.toNat 0])) <|
                              ck (inR .i64 (65542 - (((s1708.2.2.1 ++ bytesOf (((lit [27, 91, 50, 48, 49, 126]).extract (0 : Int).toNat s1708.2.2.2.1.toNat).extract (0 : Int).toNat (gmax 0 (gmin (65542 - ((s1708.2.2.1.length : Nat) : Int)) (((lit [27, 91, 50, 48, 49, 126]).extract (0 : Int).toNat s1708.2.2.2.1.toNat).size : Int))).toNat)).length : Nat) : Int))) <|
                              ck (0 ≤ (0 : Int) ∧ (0 : Int) ≤ gmax 0 (gmin (65542 - (((s1708.2.2.1 ++ bytesOf (((lit [27, 91, 50, 48, 49, 126]).extract (0 : Int).toNat s1708.2.2.2.1.toNat).extract (0 : Int).toNat (gmax 0 (gmin (65542 - ((s1708.2.2.1.length : Nat) : Int)) (((lit [27, 91, 50, 48, 49, 126]).extract (0 : Int).toNat s1708.2.2.2.1.toNat).size : Int))).toNat)).length : Nat) : Int)) ((strOf ([a1.getD s1708.2.2.2.2.2.toNat 0])).size : Int)) ∧ gmax 0 (gmin (65542 - (((s1708.2.2.1 ++ bytesOf (((lit [27, 91, 50, 48, 49, 126]).extract (0 : Int).toNat s1708.2.2.2.1.toNat).extract (0 : Int).toNat (gmax 0 (gmin (65542 - ((s1708.2.2.1.length : Nat) : Int)) (((lit [27, 91, 50, 48, 49, 126]).extract (0 : Int).toNat s1708.2.2.2.1.toNat).size : Int))).toNat)).length : Nat) : Int)) ((strOf ([a1.getD s1708.2.2.2.2.2.toNat 0])).size : Int)) ≤ ((strOf ([a1.getD s1708.2.2.2.2.2.toNat 0])).size : Int)) <|
                              ck ((s1708.2.2.1 ++ bytesOf (((lit [27, 91, 50, 48, 49, 126]).extract (0 : Int).toNat s1708.2.2.2.1.toNat).extract (0 : Int).toNat (gmax 0 (gmin (65542 - ((s1708.2.2.1.length : Nat) : Int)) (((lit [27, 91, 50, 48, 49, 126]).extract (0 : Int).toNat s1708.2.2.2.1.toNat).size : Int))).toNat)).length + ((strOf ([a1.getD s1708.2.2.2.2.2.toNat 0])).extract (0 : Int).toNat (gmax 0 (gmin (65542 - (((s1708.2.2.1 ++ bytesOf (((lit [27, 91, 50, 48, 49, 126]).extract (0 : Int).toNat s1708.2.2.2.1.toNat).extract (0 : Int).toNat (gmax 0 (gmin (65542 - ((s1708.2.2.1.length : Nat) : Int)) (((lit [27, 91, 50, 48, 49, 126]).extract (0 : Int).toNat s1708.2.2.2.1.toNat).size : Int))).toNat)).length : Nat) : Int)) ((strOf ([a1.getD s1708.2.2.2.2.2.toNat 0])).size : Int))).toNat).size ≤ 140737488355328) <|
                              ck ((s1708.2.2.2.2.1.length + 0) * 40 ≤ 140737488355328) <|
                              ck (inR .i64 (s1708.2.2.2.2.2 + 1)) <|
                              some (.go (s1708.1, s1708.2.1, ((s1708.2.2.1 ++ bytesOf (((lit [27, 91, 50, 48, 49, 126]).extract (0 : Int).toNat s1708.2.2.2.1.toNat).extract (0 : Int).toNat (gmax 0 (gmin (65542 - ((s1708.2.2.1.length : Nat) : Int)) (((lit [27, 91, 50, 48, 49, 126]).extract (0 : Int).toNat s1708.2.2.2.1.toNat).size : Int))).toNat)) ++ bytesOf ((strOf ([a1.getD s1708.2.2.2.2.2.toNat 0])).extract (0 : Int).toNat (gmax 0 (gmin (65542 - (((s1708.2.2.1 ++ bytesOf (((lit [27, 91, 50, 48, 49, 126]).extract (0 : Int).toNat s1708.2.2.2.1.toNat).extract (0 : Int).toNat (gmax 0 (gmin (65542 - ((s1708.2.2.1.length : Nat) : Int)) (((lit [27, 91, 50, 48, 49, 126]).extract (0 : Int).toNat s1708.2.2.2.1.toNat).size : Int))).toNat)).length : Nat) : Int)) ((strOf ([a1.getD s1708.2.2.2.2.2.toNat 0])).size : Int))).toNat)), 0, (s1708.2.2.2.2.1 ++ []), s1708.2.2.2.2.2 + 1))
                            )
                        )
                    )
                  else
                    (
                      ck ((s1708.1.length + 1) * 1 ≤ 140737488355328) <|
                      jn (α := _) (β := List Int × Bool × List Int × Int × List (Int × ByteArray × Int × Bool × Bool × Bool)) (fun k2355 =>
                          (loopO (σ := List Int × Bool × List Int × Int × List (Int × ByteArray × Int × Bool × Bool × Bool)) (ρ := List Int × Bool × List Int × Int × List (Int × ByteArray × Int × Bool × Bool × Bool)) (fun s2358 =>
                              if 0 < ((s2358.1.length : Nat) : Int) then
                                (
                                  if ¬ (s2358.2.1 = true) then
                                    (
                                      (g32 s2358.1).bind fun v2419 =>
                                      if v2419.1 = 0 then
                                        some (.out (s2358.1, s2358.2.1, s2358.2.2.1, s2358.2.2.2.1, s2358.2.2.2.2))
                                      else
                                        (
                                          ck (0 ≤ v2419.1 ∧ v2419.1 ≤ ((s2358.1.length : Nat) : Int) ∧ ((s2358.1.length : Nat) : Int) ≤ ((s2358.1.length : Nat) : Int)) <|
                                          ck ((0 + (((s2358.1.length : Nat) : Int).toNat - v2419.1.toNat)) * 1 ≤ 140737488355328) <|
                                          jn (α := _) (β := List (Int × ByteArray × Int × Bool × Bool × Bool)) (fun k2437 =>
                                              if v2419.2.2.2.2.2.2.2.1 = true then
                                                (
                                                  ck ((s2358.2.2.2.2.length + 1) * 40 ≤ 140737488355328) <|
                                                  k2437 (s2358.2.2.2.2 ++ [(v2419.2.1, v2419.2.2.1, v2419.2.2.2.1, v2419.2.2.2.2.1, v2419.2.2.2.2.2.1, v2419.2.2.2.2.2.2.1)])
                                                )
                                              else
                                                k2437 s2358.2.2.2.2
                                          ) (fun v2436 =>
                                            if v2419.2.2.2.2.2.2.2.2 = true then
                                              some (.go ((([] : List Int) ++ ((s2358.1.drop v2419.1.toNat).take (((s2358.1.length : Nat) : Int).toNat - v2419.1.toNat))), true, [], 0, v2436))
                                            else
                                              some (.go ((([] : List Int) ++ ((s2358.1.drop v2419.1.toNat).take (((s2358.1.length : Nat) : Int).toNat - v2419.1.toNat))), s2358.2.1, s2358.2.2.1, s2358.2.2.2.1, v2436))
                                          )
                                        )
                                    )
                                  else
                                    some (.out (s2358.1, s2358.2.1, s2358.2.2.1, s2358.2.2.2.1, s2358.2.2.2.2))
                                )
                              else
                                some (.out (s2358.1, s2358.2.1, s2358.2.2.1, s2358.2.2.2.1, s2358.2.2.2.2))
                            ) ((s1708.1 ++ [a1.getD s1708.2.2.2.2.2.toNat 0]), s1708.2.1, s1708.2.2.1, s1708.2.2.2.1, [])).bind fun o2416 =>
                            k2355 (o2416.1, o2416.2.1, o2416.2.2.1, o2416.2.2.2.1, o2416.2.2.2.2)
                      ) (fun v2354 =>
                        ck ((s1708.2.2.2.2.1.length + v2354.2.2.2.2.length) * 40 ≤ 140737488355328) <|
                        ck (inR .i64 (s1708.2.2.2.2.2 + 1)) <|
                        some (.go (v2354.1, v2354.2.1, v2354.2.2.1, v2354.2.2.2.1, (s1708.2.2.2.2.1 ++ v2354.2.2.2.2), s1708.2.2.2.2.2 + 1))
                      )
                    )
                )
              else
                some (.out (s1708.1, s1708.2.1, s1708.2.2.1, s1708.2.2.2.1, s1708.2.2.2.2.1))
            ) (a0.1, a0.2.1, a0.2.2.1, a0.2.2.2.1, [], 0)).bind fun o2204 =>
            k1705 (o2204.1, o2204.2.1, o2204.2.2.1, o2204.2.2.2.1, o2204.2.2.2.2)
      ) (fun v1704 =>
        some (v1704.2.2.2.2, (v1704.1, v1704.2.1, v1704.2.2.1, v1704.2.2.2.1, a0.2.2.2.2))
      )
    )
noncomputable def k9 : Eng.CS := { f := 9, calm := false, more := 6, ι := (List Int × Bool × List Int × Int × Bool) × (List Int) × (List (Int × ByteArray × Int × Bool × Bool × Bool) × (List Int × Bool × List Int × Int × Bool)), ok := fun i => g9 i.1 i.2.1 = some i.2.2, rds := fun _ => [], args := fun i => [.w (.lp 0 0), .sl 1 i.2.1.length (ei .u8 i.2.1)], res := fun i => .own 5, L' := fun i => [(0, .cells 55 [.own 3, bS i.2.2.2.2.1, .own 4, .v (.int .i64 (i.2.2.2.2.2.2.1)), bS i.2.2.2.2.2.2.2]), (3, .arr 5 1 i.2.2.2.1.length (ei .u8 i.2.2.2.1)), (4, .arr 5 1 i.2.2.2.2.2.1.length (ei .u8 i.2.2.2.2.2.1)), (5, .arr 51 6 i.2.2.1.length (ec c51 i.2.2.1))], rn := [(100000, 0, 5, 1), (100000, 2, 5, 1), (0, 0, 51, 6)], keys := 3, L := fun i => [(0, .cells 55 [.own 1, bS i.1.2.1, .own 2, .v (.int .i64 (i.1.2.2.2.1)), bS i.1.2.2.2.2]), (1, .arr 5 1 i.1.1.length (ei .u8 i.1.1)), (2, .arr 5 1 i.1.2.2.1.length (ei .u8 i.1.2.2.1))] }
set_option maxRecDepth 8000 in
set_option maxHeartbeats 4000000 in
theorem k9_ok : CSOk Tryd.prog k9 := by
  refine R.cspec Tryd.func9 nm9 rfl ?_
  rintro ⟨a0, a1, r⟩ hok q _ args hargs
  dsimp only [k9] at hargs ⊢
  match args, hargs with
  | [_, _], hargs =>
  obtain ⟨rfl, ⟨A1, cp1, rfl, hc1, _, hR1⟩, _⟩ := hargs
  refine ⟨envC [k32, k39] false [(9, 7), (24, 11), (24, 15)], 6, envC_ok (css_cons ⟨fun _ => k32_ok, fun h => (by cases h)⟩ (css_cons ⟨fun _ => k39_ok, fun h => (by cases h)⟩ (css_nil))), ?_⟩
  have H : Gives (g9 a0 a1) (fun a => a = r) := ⟨r, hok, rfl⟩
  unfold g9 at H
  clear hok
  refine if_st H (fun h649 H => ?_) (fun h649 H => ?_)
  · have hfin := fin_st H
    repeat refine mf1_LiftD4 ?_
    first | exact trivial | exact rfl
  · refine R.cut_fam H 36 [5] [] (fun v1704 => []) (fun v1704 => [(0, .cells 55 [.own 36, bS v1704.2.1, .own 37, .v (.int .i64 (v1704.2.2.2.1)), bS a0.2.2.2.2]), (14, .cells 26 [.own 38]), (36, .arr 5 1 (v1704.1.length) (ei .u8 (v1704.1))), (37, .arr 5 1 (v1704.2.2.1.length) (ei .u8 (v1704.2.2.1))), (38, .arr 51 6 (v1704.2.2.2.2.length) (ec c51 (v1704.2.2.2.2)))]) [(3, .cells 24 [.lp 0 0])] 3 (fun H => ?_)
    refine And.intro ?_ ?_
    · refine R.loop_fam (bind_st H) [0, 5, 6] [(100000, 2, 5, 1), (100014, 0, 51, 6)] (fun _ s1708 => [(7, .v (.int .i64 (s1708.2.2.2.2.2)))]) (fun _ s1708 => [(0, .cells 55 [.own 27, bS s1708.2.1, .own 28, .v (.int .i64 (s1708.2.2.2.1)), bS a0.2.2.2.2]), (14, .cells 26 [.own 29]), (27, .arr 5 1 (s1708.1.length) (ei .u8 (s1708.1))), (28, .arr 5 1 (s1708.2.2.1.length) (ei .u8 (s1708.2.2.1))), (29, .arr 51 6 (s1708.2.2.2.2.1.length) (ec c51 (s1708.2.2.2.2.1)))]) 3 (fun n2452 H => ?_)
      refine ⟨(n2452, _), ⟨H⟩, ⟨trivial⟩, ?_⟩
      repeat refine mo1_LiftD4 ?_
      rintro ⟨m0, s1708⟩ H _
      obtain ⟨m1709, hm0, H⟩ := IG_succ H
      dsimp only at hm0
      subst hm0
      try dsimp only at H
      refine if_st H (fun h2205 H => ?_) (fun h2205 H => ?_)
      · refine ob_ix hR1 (fun h => ei0 h) H fun h2206 H => ?_
        refine ld_int (e := a1.getD s1708.2.2.2.2.2.toNat 0) (rd_get hR1 (ei_get (l := a1) (tn h2206))) ?_
        refine And.intro ⟨by kernel_rfl⟩ ?_
        refine ⟨(Pn.calm 0 (Pn.calm 1 (Pn.calm 2 (Pn.calm 3 (Pn.calm 4 (Pn.eff 5 [3, 4, 2, 1] (Pn.eff 6 [0, 5, 3, 4, 2, 1] (Pn.eff 7 [6, 0, 1, 2, 3, 4, 5] Pn.done Pn.no) Pn.no) Pn.no)))))), ⟨by kernel_rfl⟩, ?_⟩
        refine And.intro ?_ trivial
        refine if_st H (fun h2207 H => ?_) (fun h2207 H => ?_)
        · refine ob_ck H fun h2208 H => ?_
          refine if_st H (fun h2209 H => ?_) (fun h2209 H => ?_)
          · refine ob_ck H fun h2210 H => ?_
            refine if_st H (fun h2211 H => ?_) (fun h2211 H => ?_)
            · refine And.intro ⟨rfl⟩ ?_
              refine And.intro ?_ trivial
              refine rs_st (xs := []) Reads.nil rfl ?_
              refine ob_app (by decide) (by first | exact (ec_one c51_one) | ((repeat (refine List.forall_mem_cons.2 ⟨rfl, ?_⟩)); intro y hy; cases hy; done) | (intro y hy; simp [ei, eb, es, ec, c51] at hy; (first | (rcases hy with rfl | hy) | subst hy | skip); all_goals first | rfl | simp_all [Value.oneCell'])) H fun h2212 H => ?_
              intro n2213 zs2215 hn2214 hz2216
              obtain rfl : n2213 = (s1708.2.2.2.2.1 ++ []).length := hn2214.trans (by first | exact List.length_append.symm | (simp; done) | (simp; omega))
              obtain rfl : zs2215 = ec c51 (s1708.2.2.2.2.1 ++ []) := by first | exact hz2216.trans (ec_app (xs := s1708.2.2.2.2.1) (ys := ([]))).symm | (rw [hz2216, ec_vw]; first | exact ec_app.symm | exact (ec_app (xs := s1708.2.2.2.2.1)).symm) | (rw [hz2216]; simp [ei, eb, es, ec, c51])
              refine And.intro ⟨fun _ _ _ h => h⟩ ?_
              refine And.intro ?_ trivial
              refine And.intro ⟨fun _ _ _ h => h⟩ ?_
              refine ob_ck H fun h2217 H => ?_
              replace H := some_st H
              refine ⟨(m1709, (s1708.1, s1708.2.1, s1708.2.2.1, s1708.2.2.2.1 + 1, (s1708.2.2.2.2.1 ++ []), s1708.2.2.2.2.2 + 1)), ⟨H, Nat.lt_succ_self _⟩, ⟨trivial⟩, ⟨rfl⟩, ?_⟩
              repeat refine mo1_LiftD4 ?_
              first | exact trivial | exact rfl
            · refine And.intro ⟨by kernel_rfl⟩ ?_
              refine ob_ck H fun h2218 H => ?_
              try dsimp only at h2218
              intro n2219 hn2220
              subst hn2220
              obtain ⟨v2221, hv2222, H⟩ := call_st H
              refine ⟨(((s1708.2.2.1.drop ((0 : Int).toNat)).take ((gmin ((s1708.2.2.1.length : Nat) : Int) 65536).toNat - (0 : Int).toNat)), v2221), ⟨hv2222⟩, ⟨trivial⟩, ?_⟩
              refine And.intro ⟨(len_vw (by first | omega | (dsimp only; omega))).symm, by first | omega | (dsimp only; omega), ei_vw⟩ ?_
              refine And.intro ⟨rfl⟩ ?_
              refine And.intro ?_ trivial
              refine ob_app (by decide) (by first | exact (ec_one c51_one) | ((repeat (refine List.forall_mem_cons.2 ⟨rfl, ?_⟩)); intro y hy; cases hy; done) | (intro y hy; simp [ei, eb, es, ec, c51] at hy; (first | (rcases hy with rfl | hy) | subst hy | skip); all_goals first | rfl | simp_all [Value.oneCell'])) H fun h2223 H => ?_
              intro n2224 zs2226 hn2225 hz2227
              obtain rfl : n2224 = (s1708.2.2.2.2.1 ++ [(16, v2221, 0, false, false, false)]).length := hn2225.trans (by first | exact List.length_append.symm | (simp; done) | (simp; omega))
              obtain rfl : zs2226 = ec c51 (s1708.2.2.2.2.1 ++ [(16, v2221, 0, false, false, false)]) := by first | exact hz2227.trans (ec_app (xs := s1708.2.2.2.2.1) (ys := ([(16, v2221, 0, false, false, false)]))).symm | (rw [hz2227, ec_vw]; first | exact ec_app.symm | exact (ec_app (xs := s1708.2.2.2.2.1)).symm) | (rw [hz2227]; simp [ei, eb, es, ec, c51])
              refine And.intro ⟨fun _ _ _ h => h⟩ ?_
              refine And.intro ?_ trivial
              refine And.intro ⟨fun _ _ _ h => h⟩ ?_
              refine ob_ck H fun h2228 H => ?_
              replace H := some_st H
              refine ⟨(m1709, (s1708.1, false, [], 0, (s1708.2.2.2.2.1 ++ [(16, v2221, 0, false, false, false)]), s1708.2.2.2.2.2 + 1)), ⟨H, Nat.lt_succ_self _⟩, ⟨trivial⟩, ⟨rfl⟩, ?_⟩
              repeat refine mo1_LiftD4 ?_
              first | exact trivial | exact rfl
          · refine ob_ck H fun h2229 H => ?_
            refine ob_ck H fun h2230 H => ?_
            refine And.intro ⟨by kernel_rfl⟩ ?_
            refine ⟨(Pn.calm 0 (Pn.calm 1 (Pn.calm 2 (Pn.calm 3 (Pn.calm 4 (Pn.calm 5 (Pn.calm 6 (Pn.calm 7 (Pn.calm 8 (Pn.calm 9 (Pn.calm 10 (Pn.calm 11 (Pn.eff 12 [4, 11, 3, 5, 10, 2, 9, 1, 6, 8, 7] (Pn.calm 13 (Pn.calm 14 (Pn.eff 15 [14, 12, 0, 1, 2, 3, 4, 5, 6, 7, 8, 9, 10, 11, 13] Pn.done Pn.no))) Pn.no))))))))))))), ⟨by kernel_rfl⟩, ?_⟩
            refine ob_ck H fun h2231 H => ?_
            refine And.intro ?_ trivial
            refine ob_ck H fun h2232 H => ?_
            intro n2233 zs2235 hn2234 hz2236
            obtain rfl : n2233 = (s1708.2.2.1 ++ bytesOf (((lit [27, 91, 50, 48, 49, 126]).extract (0 : Int).toNat s1708.2.2.2.1.toNat).extract (0 : Int).toNat (gmax 0 (gmin (65542 - ((s1708.2.2.1.length : Nat) : Int)) (((lit [27, 91, 50, 48, 49, 126]).extract (0 : Int).toNat s1708.2.2.2.1.toNat).size : Int))).toNat)).length := hn2234.trans (len_appS (xs := s1708.2.2.1) (s := (((lit [27, 91, 50, 48, 49, 126]).extract (0 : Int).toNat s1708.2.2.2.1.toNat).extract (0 : Int).toNat (gmax 0 (gmin (65542 - ((s1708.2.2.1.length : Nat) : Int)) (((lit [27, 91, 50, 48, 49, 126]).extract (0 : Int).toNat s1708.2.2.2.1.toNat).size : Int))).toNat)))
            obtain rfl : zs2235 = ei .u8 (s1708.2.2.1 ++ bytesOf (((lit [27, 91, 50, 48, 49, 126]).extract (0 : Int).toNat s1708.2.2.2.1.toNat).extract (0 : Int).toNat (gmax 0 (gmin (65542 - ((s1708.2.2.1.length : Nat) : Int)) (((lit [27, 91, 50, 48, 49, 126]).extract (0 : Int).toNat s1708.2.2.2.1.toNat).size : Int))).toNat)) := hz2236.trans (ei_appS (xs := s1708.2.2.1) (s := (((lit [27, 91, 50, 48, 49, 126]).extract (0 : Int).toNat s1708.2.2.2.1.toNat).extract (0 : Int).toNat (gmax 0 (gmin (65542 - ((s1708.2.2.1.length : Nat) : Int)) (((lit [27, 91, 50, 48, 49, 126]).extract (0 : Int).toNat s1708.2.2.2.1.toNat).size : Int))).toNat)))
            refine And.intro ⟨fun _ _ _ h => h⟩ ?_
            refine And.intro ?_ trivial
            refine And.intro ⟨fun _ _ _ h => h⟩ ?_
            refine ob_ck H fun h2237 H => ?_
            refine if_st H (fun h2238 H => ?_) (fun h2238 H => ?_)
            · refine And.intro ⟨rfl⟩ ?_
              refine And.intro ?_ trivial
              refine rs_st (xs := []) Reads.nil rfl ?_
              refine ob_app (by decide) (by first | exact (ec_one c51_one) | ((repeat (refine List.forall_mem_cons.2 ⟨rfl, ?_⟩)); intro y hy; cases hy; done) | (intro y hy; simp [ei, eb, es, ec, c51] at hy; (first | (rcases hy with rfl | hy) | subst hy | skip); all_goals first | rfl | simp_all [Value.oneCell'])) H fun h2239 H => ?_
              intro n2240 zs2242 hn2241 hz2243
              obtain rfl : n2240 = (s1708.2.2.2.2.1 ++ []).length := hn2241.trans (by first | exact List.length_append.symm | (simp; done) | (simp; omega))
              obtain rfl : zs2242 = ec c51 (s1708.2.2.2.2.1 ++ []) := by first | exact hz2243.trans (ec_app (xs := s1708.2.2.2.2.1) (ys := ([]))).symm | (rw [hz2243, ec_vw]; first | exact ec_app.symm | exact (ec_app (xs := s1708.2.2.2.2.1)).symm) | (rw [hz2243]; simp [ei, eb, es, ec, c51])
              refine And.intro ⟨fun _ _ _ h => h⟩ ?_
              refine And.intro ?_ trivial
              refine And.intro ⟨fun _ _ _ h => h⟩ ?_
              refine ob_ck H fun h2244 H => ?_
              replace H := some_st H
              refine ⟨(m1709, (s1708.1, s1708.2.1, (s1708.2.2.1 ++ bytesOf (((lit [27, 91, 50, 48, 49, 126]).extract (0 : Int).toNat s1708.2.2.2.1.toNat).extract (0 : Int).toNat (gmax 0 (gmin (65542 - ((s1708.2.2.1.length : Nat) : Int)) (((lit [27, 91, 50, 48, 49, 126]).extract (0 : Int).toNat s1708.2.2.2.1.toNat).size : Int))).toNat)), 1, (s1708.2.2.2.2.1 ++ []), s1708.2.2.2.2.2 + 1)), ⟨H, Nat.lt_succ_self _⟩, ⟨trivial⟩, ⟨rfl⟩, ?_⟩
              repeat refine mo1_LiftD4 ?_
              first | exact trivial | exact rfl
            · refine ob_str (l := [a1.getD s1708.2.2.2.2.2.toNat 0]) H fun h2245 H => ?_
              refine ob_ck H fun h2246 H => ?_
              refine And.intro ⟨by kernel_rfl⟩ ?_
              refine ⟨(Pn.calm 0 (Pn.calm 1 (Pn.calm 2 (Pn.calm 3 (Pn.calm 4 (Pn.calm 5 (Pn.calm 6 (Pn.calm 7 (Pn.calm 8 (Pn.calm 9 (Pn.calm 10 (Pn.calm 11 (Pn.eff 12 [4, 11, 3, 5, 10, 2, 9, 1, 6, 8, 7] (Pn.calm 13 (Pn.calm 14 (Pn.eff 15 [14, 12, 0, 1, 2, 3, 4, 5, 6, 7, 8, 9, 10, 11, 13] Pn.done Pn.no))) Pn.no))))))))))))), ⟨by kernel_rfl⟩, ?_⟩
              refine ob_ck H fun h2247 H => ?_
              refine And.intro ?_ trivial
              refine ob_ck H fun h2248 H => ?_
              intro n2249 zs2251 hn2250 hz2252
              obtain rfl : n2249 = ((s1708.2.2.1 ++ bytesOf (((lit [27, 91, 50, 48, 49, 126]).extract (0 : Int).toNat s1708.2.2.2.1.toNat).extract (0 : Int).toNat (gmax 0 (gmin (65542 - ((s1708.2.2.1.length : Nat) : Int)) (((lit [27, 91, 50, 48, 49, 126]).extract (0 : Int).toNat s1708.2.2.2.1.toNat).size : Int))).toNat)) ++ bytesOf ((strOf ([a1.getD s1708.2.2.2.2.2.toNat 0])).extract (0 : Int).toNat (gmax 0 (gmin (65542 - (((s1708.2.2.1 ++ bytesOf (((lit [27, 91, 50, 48, 49, 126]).extract (0 : Int).toNat s1708.2.2.2.1.toNat).extract (0 : Int).toNat (gmax 0 (gmin (65542 - ((s1708.2.2.1.length : Nat) : Int)) (((lit [27, 91, 50, 48, 49, 126]).extract (0 : Int).toNat s1708.2.2.2.1.toNat).size : Int))).toNat)).length : Nat) : Int)) ((strOf ([a1.getD s1708.2.2.2.2.2.toNat 0])).size : Int))).toNat)).length := hn2250.trans (len_appS (xs := (s1708.2.2.1 ++ bytesOf (((lit [27, 91, 50, 48, 49, 126]).extract (0 : Int).toNat s1708.2.2.2.1.toNat).extract (0 : Int).toNat (gmax 0 (gmin (65542 - ((s1708.2.2.1.length : Nat) : Int)) (((lit [27, 91, 50, 48, 49, 126]).extract (0 : Int).toNat s1708.2.2.2.1.toNat).size : Int))).toNat))) (s := ((strOf ([a1.getD s1708.2.2.2.2.2.toNat 0])).extract (0 : Int).toNat (gmax 0 (gmin (65542 - (((s1708.2.2.1 ++ bytesOf (((lit [27, 91, 50, 48, 49, 126]).extract (0 : Int).toNat s1708.2.2.2.1.toNat).extract (0 : Int).toNat (gmax 0 (gmin (65542 - ((s1708.2.2.1.length : Nat) : Int)) (((lit [27, 91, 50, 48, 49, 126]).extract (0 : Int).toNat s1708.2.2.2.1.toNat).size : Int))).toNat)).length : Nat) : Int)) ((strOf ([a1.getD s1708.2.2.2.2.2.toNat 0])).size : Int))).toNat)))
              obtain rfl : zs2251 = ei .u8 ((s1708.2.2.1 ++ bytesOf (((lit [27, 91, 50, 48, 49, 126]).extract (0 : Int).toNat s1708.2.2.2.1.toNat).extract (0 : Int).toNat (gmax 0 (gmin (65542 - ((s1708.2.2.1.length : Nat) : Int)) (((lit [27, 91, 50, 48, 49, 126]).extract (0 : Int).toNat s1708.2.2.2.1.toNat).size : Int))).toNat)) ++ bytesOf ((strOf ([a1.getD s1708.2.2.2.2.2.toNat 0])).extract (0 : Int).toNat (gmax 0 (gmin (65542 - (((s1708.2.2.1 ++ bytesOf (((lit [27, 91, 50, 48, 49, 126]).extract (0 : Int).toNat s1708.2.2.2.1.toNat).extract (0 : Int).toNat (gmax 0 (gmin (65542 - ((s1708.2.2.1.length : Nat) : Int)) (((lit [27, 91, 50, 48, 49, 126]).extract (0 : Int).toNat s1708.2.2.2.1.toNat).size : Int))).toNat)).length : Nat) : Int)) ((strOf ([a1.getD s1708.2.2.2.2.2.toNat 0])).size : Int))).toNat)) := hz2252.trans (ei_appS (xs := (s1708.2.2.1 ++ bytesOf (((lit [27, 91, 50, 48, 49, 126]).extract (0 : Int).toNat s1708.2.2.2.1.toNat).extract (0 : Int).toNat (gmax 0 (gmin (65542 - ((s1708.2.2.1.length : Nat) : Int)) (((lit [27, 91, 50, 48, 49, 126]).extract (0 : Int).toNat s1708.2.2.2.1.toNat).size : Int))).toNat))) (s := ((strOf ([a1.getD s1708.2.2.2.2.2.toNat 0])).extract (0 : Int).toNat (gmax 0 (gmin (65542 - (((s1708.2.2.1 ++ bytesOf (((lit [27, 91, 50, 48, 49, 126]).extract (0 : Int).toNat s1708.2.2.2.1.toNat).extract (0 : Int).toNat (gmax 0 (gmin (65542 - ((s1708.2.2.1.length : Nat) : Int)) (((lit [27, 91, 50, 48, 49, 126]).extract (0 : Int).toNat s1708.2.2.2.1.toNat).size : Int))).toNat)).length : Nat) : Int)) ((strOf ([a1.getD s1708.2.2.2.2.2.toNat 0])).size : Int))).toNat)))
              refine And.intro ⟨fun _ _ _ h => h⟩ ?_
              refine And.intro ?_ trivial
              refine And.intro ⟨fun _ _ _ h => h⟩ ?_
              refine And.intro ⟨rfl⟩ ?_
              refine And.intro ?_ trivial
              refine rs_st (xs := []) Reads.nil rfl ?_
              refine ob_app (by decide) (by first | exact (ec_one c51_one) | ((repeat (refine List.forall_mem_cons.2 ⟨rfl, ?_⟩)); intro y hy; cases hy; done) | (intro y hy; simp [ei, eb, es, ec, c51] at hy; (first | (rcases hy with rfl | hy) | subst hy | skip); all_goals first | rfl | simp_all [Value.oneCell'])) H fun h2253 H => ?_
              intro n2254 zs2256 hn2255 hz2257
              obtain rfl : n2254 = (s1708.2.2.2.2.1 ++ []).length := hn2255.trans (by first | exact List.length_append.symm | (simp; done) | (simp; omega))
              obtain rfl : zs2256 = ec c51 (s1708.2.2.2.2.1 ++ []) := by first | exact hz2257.trans (ec_app (xs := s1708.2.2.2.2.1) (ys := ([]))).symm | (rw [hz2257, ec_vw]; first | exact ec_app.symm | exact (ec_app (xs := s1708.2.2.2.2.1)).symm) | (rw [hz2257]; simp [ei, eb, es, ec, c51])
              refine And.intro ⟨fun _ _ _ h => h⟩ ?_
              refine And.intro ?_ trivial
              refine And.intro ⟨fun _ _ _ h => h⟩ ?_
              refine ob_ck H fun h2258 H => ?_
              replace H := some_st H
              refine ⟨(m1709, (s1708.1, s1708.2.1, ((s1708.2.2.1 ++ bytesOf (((lit [27, 91, 50, 48, 49, 126]).extract (0 : Int).toNat s1708.2.2.2.1.toNat).extract (0 : Int).toNat (gmax 0 (gmin (65542 - ((s1708.2.2.1.length : Nat) : Int)) (((lit [27, 91, 50, 48, 49, 126]).extract (0 : Int).toNat s1708.2.2.2.1.toNat).size : Int))).toNat)) ++ bytesOf ((strOf ([a1.getD s1708.2.2.2.2.2.toNat 0])).extract (0 : Int).toNat (gmax 0 (gmin (65542 - (((s1708.2.2.1 ++ bytesOf (((lit [27, 91, 50, 48, 49, 126]).extract (0 : Int).toNat s1708.2.2.2.1.toNat).extract (0 : Int).toNat (gmax 0 (gmin (65542 - ((s1708.2.2.1.length : Nat) : Int)) (((lit [27, 91, 50, 48, 49, 126]).extract (0 : Int).toNat s1708.2.2.2.1.toNat).size : Int))).toNat)).length : Nat) : Int)) ((strOf ([a1.getD s1708.2.2.2.2.2.toNat 0])).size : Int))).toNat)), 0, (s1708.2.2.2.2.1 ++ []), s1708.2.2.2.2.2 + 1)), ⟨H, Nat.lt_succ_self _⟩, ⟨trivial⟩, ⟨rfl⟩, ?_⟩
              repeat refine mo1_LiftD4 ?_
              first | exact trivial | exact rfl
        · refine ob_app (by decide) (by first | exact ei_one | ((repeat (refine List.forall_mem_cons.2 ⟨rfl, ?_⟩)); intro y hy; cases hy; done) | (intro y hy; simp [ei, eb, es, ec, c51] at hy; (first | (rcases hy with rfl | hy) | subst hy | skip); all_goals first | rfl | simp_all [Value.oneCell'])) H fun h2259 H => ?_
          intro n2260 zs2262 hn2261 hz2263
          obtain rfl : n2260 = (s1708.1 ++ [a1.getD s1708.2.2.2.2.2.toNat 0]).length := hn2261.trans (by first | exact List.length_append.symm | (simp; done) | (simp; omega))
          obtain rfl : zs2262 = ei .u8 (s1708.1 ++ [a1.getD s1708.2.2.2.2.2.toNat 0]) := by first | exact hz2263.trans (ei_app (xs := s1708.1) (ys := ([a1.getD s1708.2.2.2.2.2.toNat 0]))).symm | (rw [hz2263, ei_vw]; first | exact ei_app.symm | exact (ei_app (xs := s1708.1)).symm) | (rw [hz2263]; simp [ei, eb, es, ec, c51])
          refine R.cut_fam H 89 [] [] (fun v2354 => [(5, .own 91)]) (fun v2354 => [(0, .cells 55 [.own 89, bS v2354.2.1, .own 90, .v (.int .i64 (v2354.2.2.2.1)), bS a0.2.2.2.2]), (89, .arr 5 1 (v2354.1.length) (ei .u8 (v2354.1))), (90, .arr 5 1 (v2354.2.2.1.length) (ei .u8 (v2354.2.2.1))), (91, .arr 51 6 (v2354.2.2.2.2.length) (ec c51 (v2354.2.2.2.2)))]) [(29, .arr 51 6 (s1708.2.2.2.2.1.length) (ec c51 (s1708.2.2.2.2.1))), (3, .cells 24 [.lp 0 0]), (17, .cells 22 [.v (.slice (A1) (a1.length) (cp1))]), (21, .loop .busy none), (22, .dfr), (51, .arr 5 1 (1) (ei .u8 ([a1.getD s1708.2.2.2.2.2.toNat 0])))] 3 (fun H => ?_)
          refine And.intro ?_ ?_
          · refine R.loop_fam (bind_st H) [0] [(100000, 2, 5, 1), (5, 0, 51, 6)] (fun _ s2358 => [(5, .own 60)]) (fun _ s2358 => [(0, .cells 55 [.own 58, bS s2358.2.1, .own 59, .v (.int .i64 (s2358.2.2.2.1)), bS a0.2.2.2.2]), (58, .arr 5 1 (s2358.1.length) (ei .u8 (s2358.1))), (59, .arr 5 1 (s2358.2.2.1.length) (ei .u8 (s2358.2.2.1))), (60, .arr 51 6 (s2358.2.2.2.2.length) (ec c51 (s2358.2.2.2.2)))]) 3 (fun n2445 H => ?_)
            refine ⟨(n2445, _), ⟨H⟩, ⟨trivial⟩, ?_⟩
            repeat refine mo1_LiftD4 ?_
            rintro ⟨m0, s2358⟩ H _
            obtain ⟨m2359, hm0, H⟩ := IG_succ H
            dsimp only at hm0
            subst hm0
            try dsimp only at H
            refine if_st H (fun h2417 H => ?_) (fun h2417 H => ?_)
            · refine if_st H (fun h2418 H => ?_) (fun h2418 H => ?_)
              · obtain ⟨v2419, hv2420, H⟩ := call_st H
                refine ⟨(s2358.1, v2419), ⟨hv2420⟩, ⟨trivial⟩, ?_⟩
                refine And.intro ⟨by first | rfl | (simp; done), by first | rfl | (simp [ei, eb, es, ec, c51]; done) | (simp only [ei, eb, es, ec, c51, List.map_append, List.nil_append, List.append_assoc]; rfl)⟩ ?_
                refine if_st H (fun h2421 H => ?_) (fun h2421 H => ?_)
                · replace H := some_st H
                  dsimp only [stp, sm] at H
                  refine ⟨(s2358.1, s2358.2.1, s2358.2.2.1, s2358.2.2.2.1, s2358.2.2.2.2), ⟨H⟩, ⟨rfl⟩, ?_⟩
                  repeat refine mo1_LiftD4 ?_
                  first | exact trivial | exact rfl
                · refine And.intro ⟨by kernel_rfl⟩ ?_
                  refine ⟨(Pn.calm 0 (Pn.calm 2 (Pn.calm 3 (Pn.calm 4 (Pn.calm 5 (Pn.calm 6 (Pn.calm 7 (Pn.calm 8 (Pn.eff 1 [] (Pn.eff 9 [1, 8, 5, 7, 4, 6, 3, 2] (Pn.calm 10 (Pn.calm 11 (Pn.eff 12 [11, 9, 0, 1, 2, 3, 4, 5, 6, 7, 8, 10] Pn.done Pn.no))) Pn.no) Pn.no))))))))), ⟨by kernel_rfl⟩, ?_⟩
                  refine ob_ck H fun h2422 H => ?_
                  try dsimp only at h2422
                  intro n2423 hn2424
                  subst hn2424
                  refine And.intro ?_ trivial
                  refine And.intro ⟨rfl⟩ ?_
                  refine And.intro ?_ trivial
                  refine And.intro ⟨by first | omega | (dsimp only; omega)⟩ ?_
                  refine ob_app (by decide) (by first | exact (vw_one ei_one) | ((repeat (refine List.forall_mem_cons.2 ⟨rfl, ?_⟩)); intro y hy; cases hy; done) | (intro y hy; simp [ei, eb, es, ec, c51] at hy; (first | (rcases hy with rfl | hy) | subst hy | skip); all_goals first | rfl | simp_all [Value.oneCell'])) H fun h2425 H => ?_
                  intro n2426 zs2428 hn2427 hz2429
                  obtain rfl : n2426 = (([] : List Int) ++ ((s2358.1.drop v2419.1.toNat).take (((s2358.1.length : Nat) : Int).toNat - v2419.1.toNat))).length := hn2427.trans (by first | exact List.length_append.symm | (simp; done) | (simp; omega))
                  obtain rfl : zs2428 = ei .u8 (([] : List Int) ++ ((s2358.1.drop v2419.1.toNat).take (((s2358.1.length : Nat) : Int).toNat - v2419.1.toNat))) := by first | exact hz2429.trans (ei_app (xs := ([] : List Int)) (ys := ((s2358.1.drop v2419.1.toNat).take (((s2358.1.length : Nat) : Int).toNat - v2419.1.toNat)))).symm | (rw [hz2429, ei_vw]; first | exact ei_app.symm | exact (ei_app (xs := ([] : List Int))).symm) | (rw [hz2429]; simp [ei, eb, es, ec, c51])
                  refine And.intro ⟨fun _ _ _ h => h⟩ ?_
                  refine And.intro ?_ trivial
                  refine And.intro ⟨fun _ _ _ h => h⟩ ?_
                  refine R.cut_fam H 96 [0, 6, 31, 32, 33, 34, 35] [] (fun v2436 => [(5, .own 96)]) (fun v2436 => [(96, .arr 51 6 (v2436.length) (ec c51 (v2436)))]) [(59, .arr 5 1 (s2358.2.2.1.length) (ei .u8 (s2358.2.2.1))), (29, .arr 51 6 (s1708.2.2.2.2.1.length) (ec c51 (s1708.2.2.2.2.1))), (3, .cells 24 [.lp 0 0]), (17, .cells 22 [.v (.slice (A1) (a1.length) (cp1))]), (21, .loop .busy none), (22, .dfr), (51, .arr 5 1 (1) (ei .u8 ([a1.getD s1708.2.2.2.2.2.toNat 0]))), (0, .cells 55 [.own 85, bS s2358.2.1, .own 59, .v (.int .i64 (s2358.2.2.2.1)), bS a0.2.2.2.2]), (58, .arr 5 1 (s2358.1.length) (ei .u8 (s2358.1))), (79, .cells 71 [.v (.int .i64 (v2419.1)), .v (.int .i64 (v2419.2.1)), .v (.string (v2419.2.2.1)), .v (.int .i64 (v2419.2.2.2.1)), bS v2419.2.2.2.2.1, bS v2419.2.2.2.2.2.1, bS v2419.2.2.2.2.2.2.1, bS v2419.2.2.2.2.2.2.2.1, bS v2419.2.2.2.2.2.2.2.2]), (85, .arr 5 1 ((([] : List Int) ++ ((s2358.1.drop v2419.1.toNat).take (((s2358.1.length : Nat) : Int).toNat - v2419.1.toNat))).length) (ei .u8 ((([] : List Int) ++ ((s2358.1.drop v2419.1.toNat).take (((s2358.1.length : Nat) : Int).toNat - v2419.1.toNat))))))] 1 (fun H => ?_)
                  refine And.intro ?_ ?_
                  · refine if_st H (fun h2438 H => ?_) (fun h2438 H => ?_)
                    · refine ob_app (by decide) (by first | exact (ec_one c51_one) | ((repeat (refine List.forall_mem_cons.2 ⟨rfl, ?_⟩)); intro y hy; cases hy; done) | (intro y hy; simp [ei, eb, es, ec, c51] at hy; (first | (rcases hy with rfl | hy) | subst hy | skip); all_goals first | rfl | simp_all [Value.oneCell'])) H fun h2439 H => ?_
                      intro n2440 zs2442 hn2441 hz2443
                      obtain rfl : n2440 = (s2358.2.2.2.2 ++ [(v2419.2.1, v2419.2.2.1, v2419.2.2.2.1, v2419.2.2.2.2.1, v2419.2.2.2.2.2.1, v2419.2.2.2.2.2.2.1)]).length := hn2441.trans (by first | exact List.length_append.symm | (simp; done) | (simp; omega))
                      obtain rfl : zs2442 = ec c51 (s2358.2.2.2.2 ++ [(v2419.2.1, v2419.2.2.1, v2419.2.2.2.1, v2419.2.2.2.2.1, v2419.2.2.2.2.2.1, v2419.2.2.2.2.2.2.1)]) := by first | exact hz2443.trans (ec_app (xs := s2358.2.2.2.2) (ys := ([(v2419.2.1, v2419.2.2.1, v2419.2.2.2.1, v2419.2.2.2.2.1, v2419.2.2.2.2.2.1, v2419.2.2.2.2.2.2.1)]))).symm | (rw [hz2443, ec_vw]; first | exact ec_app.symm | exact (ec_app (xs := s2358.2.2.2.2)).symm) | (rw [hz2443]; simp [ei, eb, es, ec, c51])
                      refine ⟨(s2358.2.2.2.2 ++ [(v2419.2.1, v2419.2.2.1, v2419.2.2.2.1, v2419.2.2.2.2.1, v2419.2.2.2.2.2.1, v2419.2.2.2.2.2.2.1)]), ⟨H⟩, ⟨rfl⟩, ?_⟩
                      repeat refine mo1_LiftD4 ?_
                      first | exact trivial | exact rfl
                    · refine ⟨s2358.2.2.2.2, ⟨H⟩, ⟨rfl⟩, ?_⟩
                      repeat refine mo1_LiftD4 ?_
                      first | exact trivial | exact rfl
                  · intro v2436 H
                    refine if_st H (fun h2444 H => ?_) (fun h2444 H => ?_)
                    · replace H := some_st H
                      refine ⟨(m2359, ((([] : List Int) ++ ((s2358.1.drop v2419.1.toNat).take (((s2358.1.length : Nat) : Int).toNat - v2419.1.toNat))), true, [], 0, v2436)), ⟨H, Nat.lt_succ_self _⟩, ⟨trivial⟩, ⟨rfl⟩, ?_⟩
                      repeat refine mo1_LiftD4 ?_
                      first | exact trivial | exact rfl
                    · replace H := some_st H
                      refine ⟨(m2359, ((([] : List Int) ++ ((s2358.1.drop v2419.1.toNat).take (((s2358.1.length : Nat) : Int).toNat - v2419.1.toNat))), s2358.2.1, s2358.2.2.1, s2358.2.2.2.1, v2436)), ⟨H, Nat.lt_succ_self _⟩, ⟨trivial⟩, ⟨rfl⟩, ?_⟩
                      repeat refine mo1_LiftD4 ?_
                      first | exact trivial | exact rfl
              · replace H := some_st H
                dsimp only [stp, sm] at H
                refine ⟨(s2358.1, s2358.2.1, s2358.2.2.1, s2358.2.2.2.1, s2358.2.2.2.2), ⟨H⟩, ⟨rfl⟩, ?_⟩
                repeat refine mo1_LiftD4 ?_
                first | exact trivial | exact rfl
            · replace H := some_st H
              dsimp only [stp, sm] at H
              refine ⟨(s2358.1, s2358.2.1, s2358.2.2.1, s2358.2.2.2.1, s2358.2.2.2.2), ⟨H⟩, ⟨rfl⟩, ?_⟩
              repeat refine mo1_LiftD4 ?_
              first | exact trivial | exact rfl
          · intro v2354 H
            refine And.intro ⟨rfl⟩ ?_
            refine And.intro ?_ trivial
            refine ob_app (by decide) (by first | exact (ec_one c51_one) | ((repeat (refine List.forall_mem_cons.2 ⟨rfl, ?_⟩)); intro y hy; cases hy; done) | (intro y hy; simp [ei, eb, es, ec, c51] at hy; (first | (rcases hy with rfl | hy) | subst hy | skip); all_goals first | rfl | simp_all [Value.oneCell'])) H fun h2446 H => ?_
            intro n2447 zs2449 hn2448 hz2450
            obtain rfl : n2447 = (s1708.2.2.2.2.1 ++ v2354.2.2.2.2).length := hn2448.trans (by first | exact List.length_append.symm | (simp; done) | (simp; omega))
            obtain rfl : zs2449 = ec c51 (s1708.2.2.2.2.1 ++ v2354.2.2.2.2) := by first | exact hz2450.trans (ec_app (xs := s1708.2.2.2.2.1) (ys := v2354.2.2.2.2)).symm | (rw [hz2450, ec_vw]; first | exact ec_app.symm | exact (ec_app (xs := s1708.2.2.2.2.1)).symm) | (rw [hz2450]; simp [ei, eb, es, ec, c51])
            refine And.intro ⟨fun _ _ _ h => h⟩ ?_
            refine And.intro ?_ trivial
            refine And.intro ⟨fun _ _ _ h => h⟩ ?_
            refine ob_ck H fun h2451 H => ?_
            replace H := some_st H
            refine ⟨(m1709, (v2354.1, v2354.2.1, v2354.2.2.1, v2354.2.2.2.1, (s1708.2.2.2.2.1 ++ v2354.2.2.2.2), s1708.2.2.2.2.2 + 1)), ⟨H, Nat.lt_succ_self _⟩, ⟨trivial⟩, ⟨rfl⟩, ?_⟩
            repeat refine mo1_LiftD4 ?_
            first | exact trivial | exact rfl
      · replace H := some_st H
        dsimp only [stp, sm] at H
        refine ⟨(s1708.1, s1708.2.1, s1708.2.2.1, s1708.2.2.2.1, s1708.2.2.2.2.1), ⟨H⟩, ⟨rfl⟩, ?_⟩
        repeat refine mo1_LiftD4 ?_
        first | exact trivial | exact rfl
    · intro v1704 H
      have hfin := fin_st H
      repeat refine mf1_LiftD4 ?_
      first | exact trivial | exact rfl

/-- (*placard/keyin.Decoder).One -/
noncomputable def g17 (a0 : (List Int × Bool × List Int × Int × Bool)) (a1 : List Int) : Option (List (Int × ByteArray × Int × Bool × Bool × Bool) × Int × (List Int × Bool × List Int × Int × Bool)) :=
  if ¬ (a0.2.2.2.2 = true) then
    some (([] : List (Int × ByteArray × Int × Bool × Bool × Bool)), 0, (a0.1, a0.2.1, a0.2.2.1, a0.2.2.2.1, a0.2.2.2.2))
  else
    (
      jn (α := _) (β := List Int × Bool × List Int × Int × List (Int × ByteArray × Int × Bool × Bool × Bool) × Int) (fun k4491 =>
          (loopO (σ := List Int × Bool × List Int × Int × List (Int × ByteArray × Int × Bool × Bool × Bool) × Int × Int) (ρ := (List Int × Bool × List Int × Int × List (Int × ByteArray × Int × Bool × Bool × Bool) × Int) ⊕ (List Int × Bool × List Int × Int × List (Int × ByteArray × Int × Bool × Bool × Bool) × Int)) (fun s4494 =>
              if s4494.2.2.2.2.2.2 < ((a1.length : Nat) : Int) then
                (
                  ck (0 ≤ s4494.2.2.2.2.2.2 ∧ s4494.2.2.2.2.2.2 < ((a1.length : Nat) : Int)) <|
                  jn (α := _) (β := List Int × Bool × List Int × Int × List (Int × ByteArray × Int × Bool × Bool × Bool)) (fun k5589 =>
                      if s4494.2.1 = true then
                        (
                          ck (0 ≤ s4494.2.2.2.1 ∧ s4494.2.2.2.1 < ((lit [27, 91, 50, 48, 49, 126]).size : Int)) <|
                          if (a1.getD s4494.2.2.2.2.2.2.toNat 0) = (((lit [27, 91, 50, 48, 49, 126]).data.toList[s4494.2.2.2.1.toNat]?.getD 0).toNat : Int) then
                            (
                              ck (inR .i64 (s4494.2.2.2.1 + 1)) <|
                              if (s4494.2.2.2.1 + 1) < 6 then
                                k5589 (s4494.1, s4494.2.1, s4494.2.2.1, s4494.2.2.2.1 + 1, [])
                              else
                                (
                                  ck (0 ≤ (0 : Int) ∧ (0 : Int) ≤ gmin ((s4494.2.2.1.length : Nat) : Int) 65536 ∧ gmin ((s4494.2.2.1.length : Nat) : Int) 65536 ≤ ((s4494.2.2.1.length : Nat) : Int)) <|
                                  (g39 ((s4494.2.2.1.drop ((0 : Int).toNat)).take ((gmin ((s4494.2.2.1.length : Nat) : Int) 65536).toNat - (0 : Int).toNat))).bind fun v5598 =>
                                  k5589 (s4494.1, false, [], 0, [(16, v5598, 0, false, false, false)])
                                )
                            )
                          else
                            (
                              ck (0 ≤ (0 : Int) ∧ (0 : Int) ≤ s4494.2.2.2.1 ∧ s4494.2.2.2.1 ≤ ((lit [27, 91, 50, 48, 49, 126]).size : Int)) <|
                              ck (inR .i64 (65542 - ((s4494.2.2.1.length : Nat) : Int))) <|
                              ck (0 ≤ (0 : Int) ∧ (0 : Int) ≤ gmax 0 (gmin (65542 - ((s4494.2.2.1.length : Nat) : Int)) (((lit [27, 91, 50, 48, 49, 126]).extract (0 : Int).toNat s4494.2.2.2.1.toNat).size : Int)) ∧ gmax 0 (gmin (65542 - ((s4494.2.2.1.length : Nat) : Int)) (((lit [27, 91, 50, 48, 49, 126]).extract (0 : Int).toNat s4494.2.2.2.1.toNat).size : Int)) ≤ (((lit [27, 91, 50, 48, 49, 126]).extract (0 : Int).toNat s4494.2.2.2.1.toNat).size : Int)) <|
                              ck (s4494.2.2.1.length + (((lit [27, 91, 50, 48, 49, 126]).extract (0 : Int).toNat s4494.2.2.2.1.toNat).extract (0 : Int).toNat (gmax 0 (gmin (65542 - ((s4494.2.2.1.length : Nat) : Int)) (((lit [27, 91, 50, 48, 49, 126]).extract (0 : Int).toNat s4494.2.2.2.1.toNat).size : Int))).toNat).size ≤ 140737488355328) <|
                              ck (0 ≤ (0 : Int) ∧ 0 < ((lit [27, 91, 50, 48, 49, 126]).size : Int)) <|
                              if (a1.getD s4494.2.2.2.2.2.2.toNat 0) = (((lit [27, 91, 50, 48, 49, 126]).data.toList[(0 : Int).toNat]?.getD 0).toNat : Int) then
                                k5589 (s4494.1, s4494.2.1, (s4494.2.2.1 ++ bytesOf (((lit [27, 91, 50, 48, 49, 126]).extract (0 : Int).toNat s4494.2.2.2.1.toNat).extract (0 : Int).toNat (gmax 0 (gmin (65542 - ((s4494.2.2.1.length : Nat) : Int)) (((lit [27, 91, 50, 48, 49, 126]).extract (0 : Int).toNat s4494.2.2.2.1.toNat).size : Int))).toNat)), 1, [])
                              else
                                (
                                  ck (isBytes ([a1.getD s4494.2.2.2.2.2.2.toNat 0])) <|
                                  ck (inR .i64 (65542 - (((s4494.2.2.1 ++ bytesOf (((lit [27, 91, 50, 48, 49, 126]).extract (0 : Int).toNat s4494.2.2.2.1.toNat).extract (0 : Int).toNat (gmax 0 (gmin (65542 - ((s4494.2.2.1.length : Nat) : Int)) (((lit [27, 91, 50, 48, 49, 126]).extract (0 : Int).toNat s4494.2.2.2.1.toNat).size : Int))).toNat)).length : Nat) : Int))) <|
                                  ck (0 ≤ (0 : Int) ∧ (0 : Int) ≤ gmax 0 (gmin (65542 - (((s4494.2.2.1 ++ bytesOf (((lit [27, 91, 50, 48, 49, 126]).extract (0 : Int).toNat s4494.2.2.2.1.toNat).extract (0 : Int).toNat (gmax 0 (gmin (65542 - ((s4494.2.2.1.length : Nat) : Int)) (((lit [27, 91, 50, 48, 49, 126]).extract (0 : Int).toNat s4494.2.2.2.1.toNat).size : Int))).toNat)).length : Nat) : Int)) ((strOf ([a1.getD s4494.2.2.2.2.2.2.toNat 0])).size : Int)) ∧ gmax 0 (gmin (65542 - (((s4494.2.2.1 ++ bytesOf (((lit [27, 91, 50, 48, 49, 126]).extract (0 : Int).toNat s4494.2.2.2.1.toNat).extract (0 : Int).toNat (gmax 0 (gmin (65542 - ((s4494.2.2.1.length : Nat) : Int)) (((lit [27, 91, 50, 48, 49, 126]).extract (0 : Int).toNat s4494.2.2.2.1.toNat).size : Int))).toNat)).length : Nat) : Int)) ((strOf ([a1.getD s4494.2.2.2.2.2.2.toNat 0])).size : Int)) ≤ ((strOf ([a1.getD s4494.2.2.2.2.2.2.toNat 0])).size : Int)) <|
                                  ck ((s4494.2.2.1 ++ bytesOf (((lit [27, 91, 50, 48, 49, 126]).extract (0 : Int).toNat s4494.2.2.2.1.toNat).extract (0 : Int).toNat (gmax 0 (gmin (65542 - ((s4494.2.2.1.length : Nat) : Int)) (((lit [27, 91, 50, 48, 49, 126]).extract (0 : Int).toNat s4494.2.2.2.1.toNat).size : Int))).toNat)).length + ((strOf ([a1.getD s4494.2.2.2.2.2.2.toNat 0])).extract (0 : Int).toNat (gmax 0 (gmin (65542 - (((s4494.2.2.1 ++ bytesOf (((lit [27, 91, 50, 48, 49, 126]).extract (0 : Int).toNat s4494.2.2.2.1.toNat).extract (0 : Int).toNat (gmax 0 (gmin (65542 - ((s4494.2.2.1.length : Nat) : Int)) (((lit [27, 91, 50, 48, 49, 126]).extract (0 : Int).toNat s4494.2.2.2.1.toNat).size : Int))).toNat)).length : Nat) : Int)) ((strOf ([a1.getD s4494.2.2.2.2.2.2.toNat 0])).size : Int))).toNat).size ≤ 140737488355328) <|
                                  k5589 (s4494.1, s4494.2.1, ((s4494.2.2.1 ++ bytesOf (((lit [27, 91, 50, 48, 49, 126]).extract (0 : Int).toNat s4494.2.2.2.1.toNat).extract (0 : Int).toNat (gmax 0 (gmin (65542 - ((s4494.2.2.1.length : Nat) : Int)) (((lit [27, 91, 50, 48, 49, 126]).extract (0 : Int).toNat s4494.2.2.2.1.toNat).size : Int))).toNat)) ++ bytesOf ((strOf ([a1.getD s4494.2.2.2.2.2.2.toNat 0])).extract (0 : Int).toNat (gmax 0 (gmin (65542 - (((s4494.2.2.1 ++ bytesOf (((lit [27, 91, 50, 48, 49, 126]).extract (0 : Int).toNat s4494.2.2.2.1.toNat).extract (0 : Int).toNat (gmax 0 (gmin (65542 - ((s4494.2.2.1.length : Nat) : Int)) (((lit [27, 91, 50, 48, 49, 126]).extract (0 : Int).toNat s4494.2.2.2.1.toNat).size : Int))).toNat)).length : Nat) : Int)) ((strOf ([a1.getD s4494.2.2.2.2.2.2.toNat 0])).size : Int))).toNat)), 0, [])
                                )
                            )
                        )
                      else
                        (
                          ck ((s4494.1.length + 1) * 1 ≤ 140737488355328) <|
                          jn (α := _) (β := List Int × Bool × List Int × Int × List (Int × ByteArray × Int × Bool × Bool × Bool)) (fun k5714 =>
                              (loopO (σ := List Int × Bool × List Int × Int × List (Int × ByteArray × Int × Bool × Bool × Bool)) (ρ := List Int × Bool × List Int × Int × List (Int × ByteArray × Int × Bool × Bool × Bool)) (fun s5717 =>
                                  if 0 < ((s5717.1.length : Nat) : Int) then
                                    (
                                      if ¬ (s5717.2.1 = true) then
                                        (
                                          (g32 s5717.1).bind fun v5778 =>
                                          if v5778.1 = 0 then
                                            some (.out (s5717.1, s5717.2.1, s5717.2.2.1, s5717.2.2.2.1, s5717.2.2.2.2))
                                          else
                                            (
                                              ck (0 ≤ v5778.1 ∧ v5778.1 ≤ ((s5717.1.length : Nat) : Int) ∧ ((s5717.1.length : Nat) : Int) ≤ ((s5717.1.length : Nat) : Int)) <|
                                              ck ((0 + (((s5717.1.length : Nat) : Int).toNat - v5778.1.toNat)) * 1 ≤ 140737488355328) <|
                                              jn (α := _) (β := List (Int × ByteArray × Int × Bool × Bool × Bool)) (fun k5796 =>
                                                  if v5778.2.2.2.2.2.2.2.1 = true then
                                                    (
                                                      ck ((s5717.2.2.2.2.length + 1) * 40 ≤ 140737488355328) <|
                                                      k5796 (s5717.2.2.2.2 ++ [(v5778.2.1, v5778.2.2.1, v5778.2.2.2.1, v5778.2.2.2.2.1, v5778.2.2.2.2.2.1, v5778.2.2.2.2.2.2.1)])
                                                    )
                                                  else
                                                    k5796 s5717.2.2.2.2
                                              ) (fun v5795 =>
                                                if v5778.2.2.2.2.2.2.2.2 = true then
                                                  some (.go ((([] : List Int) ++ ((s5717.1.drop v5778.1.toNat).take (((s5717.1.length : Nat) : Int).toNat - v5778.1.toNat))), true, [], 0, v5795))
                                                else
                                                  some (.go ((([] : List Int) ++ ((s5717.1.drop v5778.1.toNat).take (((s5717.1.length : Nat) : Int).toNat - v5778.1.toNat))), s5717.2.1, s5717.2.2.1, s5717.2.2.2.1, v5795))
                                              )
                                            )
                                        )
                                      else
                                        some (.out (s5717.1, s5717.2.1, s5717.2.2.1, s5717.2.2.2.1, s5717.2.2.2.2))
                                    )
                                  else
                                    some (.out (s5717.1, s5717.2.1, s5717.2.2.1, s5717.2.2.2.1, s5717.2.2.2.2))
                                ) ((s4494.1 ++ [a1.getD s4494.2.2.2.2.2.2.toNat 0]), s4494.2.1, s4494.2.2.1, s4494.2.2.2.1, [])).bind fun o5775 =>
                                k5714 (o5775.1, o5775.2.1, o5775.2.2.1, o5775.2.2.2.1, o5775.2.2.2.2)
                          ) (fun v5713 =>
                            k5589 (v5713.1, v5713.2.1, v5713.2.2.1, v5713.2.2.2.1, v5713.2.2.2.2)
                          )
                        )
                  ) (fun v5588 =>
                    ck (inR .i64 (s4494.2.2.2.2.2.1 + 1)) <|
                    if 0 < ((v5588.2.2.2.2.length : Nat) : Int) then
                      some (.out (.inl ((v5588.1, v5588.2.1, v5588.2.2.1, v5588.2.2.2.1, v5588.2.2.2.2, s4494.2.2.2.2.2.1 + 1))))
                    else
                      (
                        ck (inR .i64 (s4494.2.2.2.2.2.2 + 1)) <|
                        some (.go (v5588.1, v5588.2.1, v5588.2.2.1, v5588.2.2.2.1, v5588.2.2.2.2, s4494.2.2.2.2.2.1 + 1, s4494.2.2.2.2.2.2 + 1))
                      )
                  )
                )
              else
                some (.out (.inr ((s4494.1, s4494.2.1, s4494.2.2.1, s4494.2.2.2.1, s4494.2.2.2.2.1, s4494.2.2.2.2.2.1))))
            ) (a0.1, a0.2.1, a0.2.2.1, a0.2.2.2.1, [], 0, 0)).bind fun o5370 =>
          sm o5370 (fun o5808 =>
              some (o5808.2.2.2.2.1, o5808.2.2.2.2.2, (o5808.1, o5808.2.1, o5808.2.2.1, o5808.2.2.2.1, a0.2.2.2.2))
            ) (fun o5809 =>
              k4491 (o5809.1, o5809.2.1, o5809.2.2.1, o5809.2.2.2.1, o5809.2.2.2.2.1, o5809.2.2.2.2.2)
            )
      ) (fun v4490 =>
        some (([] : List (Int × ByteArray × Int × Bool × Bool × Bool)), v4490.2.2.2.2.2, (v4490.1, v4490.2.1, v4490.2.2.1, v4490.2.2.2.1, a0.2.2.2.2))
      )
    )
noncomputable def k17 : Eng.CS := { f := 17, calm := false, more := 6, ι := (List Int × Bool × List Int × Int × Bool) × (List Int) × (List (Int × ByteArray × Int × Bool × Bool × Bool) × Int × (List Int × Bool × List Int × Int × Bool)), ok := fun i => g17 i.1 i.2.1 = some i.2.2, rds := fun _ => [], args := fun i => [.w (.lp 0 0), .sl 1 i.2.1.length (ei .u8 i.2.1)], res := fun i => .tup [.own 5, .v (.int .i64 (i.2.2.2.1))], L' := fun i => [(0, .cells 55 [.own 3, bS i.2.2.2.2.2.1, .own 4, .v (.int .i64 (i.2.2.2.2.2.2.2.1)), bS i.2.2.2.2.2.2.2.2]), (3, .arr 5 1 i.2.2.2.2.1.length (ei .u8 i.2.2.2.2.1)), (4, .arr 5 1 i.2.2.2.2.2.2.1.length (ei .u8 i.2.2.2.2.2.2.1)), (5, .arr 51 6 i.2.2.1.length (ec c51 i.2.2.1))], rn := [(100000, 0, 5, 1), (100000, 2, 5, 1), (0, 0, 51, 6)], keys := 3, L := fun i => [(0, .cells 55 [.own 1, bS i.1.2.1, .own 2, .v (.int .i64 (i.1.2.2.2.1)), bS i.1.2.2.2.2]), (1, .arr 5 1 i.1.1.length (ei .u8 i.1.1)), (2, .arr 5 1 i.1.2.2.1.length (ei .u8 i.1.2.2.1))] }
set_option maxRecDepth 8000 in
set_option maxHeartbeats 4000000 in
theorem k17_ok : CSOk Tryd.prog k17 := by
  refine R.cspec Tryd.func17 nm17 rfl ?_
  rintro ⟨a0, a1, r⟩ hok q _ args hargs
  dsimp only [k17] at hargs ⊢
  match args, hargs with
  | [_, _], hargs =>
  obtain ⟨rfl, ⟨A1, cp1, rfl, hc1, _, hR1⟩, _⟩ := hargs
  refine ⟨envC [k32, k39] false [(17, 6), (17, 9), (24, 11), (24, 15)], 6, envC_ok (css_cons ⟨fun _ => k32_ok, fun h => (by cases h)⟩ (css_cons ⟨fun _ => k39_ok, fun h => (by cases h)⟩ (css_nil))), ?_⟩
  have H : Gives (g17 a0 a1) (fun a => a = r) := ⟨r, hok, rfl⟩
  unfold g17 at H
  clear hok
  refine if_st H (fun h2454 H => ?_) (fun h2454 H => ?_)
  · have hfin := fin_st H
    repeat refine mf1_LiftD4 ?_
    first | exact trivial | exact rfl
  · refine R.cut_fam H 36 [4, 5] [] (fun v4490 => []) (fun v4490 => [(0, .cells 55 [.own 36, bS v4490.2.1, .own 37, .v (.int .i64 (v4490.2.2.2.1)), bS a0.2.2.2.2]), (4, .cells 26 [.own 38]), (5, .cells 3 [.v (.int .i64 (v4490.2.2.2.2.2))]), (36, .arr 5 1 (v4490.1.length) (ei .u8 (v4490.1))), (37, .arr 5 1 (v4490.2.2.1.length) (ei .u8 (v4490.2.2.1))), (38, .arr 51 6 (v4490.2.2.2.2.1.length) (ec c51 (v4490.2.2.2.2.1)))]) [(3, .cells 24 [.lp 0 0])] 3 (fun H => ?_)
    refine And.intro ?_ ?_
    · refine R.loop_fam (bind_st H) [0, 5, 6] [(100004, 0, 51, 6)] (fun _ s4494 => [(7, .v (.int .i64 (s4494.2.2.2.2.2.2)))]) (fun _ s4494 => [(0, .cells 55 [.own 27, bS s4494.2.1, .own 28, .v (.int .i64 (s4494.2.2.2.1)), bS a0.2.2.2.2]), (4, .cells 26 [.own 29]), (5, .cells 3 [.v (.int .i64 (s4494.2.2.2.2.2.1))]), (27, .arr 5 1 (s4494.1.length) (ei .u8 (s4494.1))), (28, .arr 5 1 (s4494.2.2.1.length) (ei .u8 (s4494.2.2.1))), (29, .arr 51 6 (s4494.2.2.2.2.1.length) (ec c51 (s4494.2.2.2.2.1)))]) 3 (fun n5810 H => ?_)
      refine ⟨(n5810, _), ⟨H⟩, ⟨trivial⟩, ?_⟩
      repeat refine mo1_LiftD4 ?_
      rintro ⟨m0, s4494⟩ H _
      obtain ⟨m4495, hm0, H⟩ := IG_succ H
      dsimp only at hm0
      subst hm0
      try dsimp only at H
      refine if_st H (fun h5371 H => ?_) (fun h5371 H => ?_)
      · refine ob_ix hR1 (fun h => ei0 h) H fun h5372 H => ?_
        refine ld_int (e := a1.getD s4494.2.2.2.2.2.2.toNat 0) (rd_get hR1 (ei_get (l := a1) (tn h5372))) ?_
        refine R.cut_fam H 106 [4, 5] [(100000, 2, 5, 1), (100004, 0, 51, 6)] (fun v5588 => []) (fun v5588 => [(0, .cells 55 [.own 106, bS v5588.2.1, .own 107, .v (.int .i64 (v5588.2.2.2.1)), bS a0.2.2.2.2]), (4, .cells 26 [.own 108]), (106, .arr 5 1 (v5588.1.length) (ei .u8 (v5588.1))), (107, .arr 5 1 (v5588.2.2.1.length) (ei .u8 (v5588.2.2.1))), (108, .arr 51 6 (v5588.2.2.2.2.length) (ec c51 (v5588.2.2.2.2)))]) [(5, .cells 3 [.v (.int .i64 (s4494.2.2.2.2.2.1))]), (29, .arr 51 6 (s4494.2.2.2.2.1.length) (ec c51 (s4494.2.2.2.2.1))), (3, .cells 24 [.lp 0 0]), (17, .cells 22 [.v (.slice (A1) (a1.length) (cp1))]), (21, .loop .busy none), (22, .dfr)] 3 (fun H => ?_)
        refine And.intro ?_ ?_
        · refine if_st H (fun h5590 H => ?_) (fun h5590 H => ?_)
          · refine ob_ck H fun h5591 H => ?_
            refine if_st H (fun h5592 H => ?_) (fun h5592 H => ?_)
            · refine ob_ck H fun h5593 H => ?_
              refine if_st H (fun h5594 H => ?_) (fun h5594 H => ?_)
              · refine ⟨(s4494.1, s4494.2.1, s4494.2.2.1, s4494.2.2.2.1 + 1, []), ⟨H⟩, ⟨rfl⟩, ?_⟩
                repeat refine mo1_LiftD4 ?_
                first | exact trivial | exact rfl
              · refine And.intro ⟨by kernel_rfl⟩ ?_
                refine ob_ck H fun h5595 H => ?_
                try dsimp only at h5595
                intro n5596 hn5597
                subst hn5597
                obtain ⟨v5598, hv5599, H⟩ := call_st H
                refine ⟨(((s4494.2.2.1.drop ((0 : Int).toNat)).take ((gmin ((s4494.2.2.1.length : Nat) : Int) 65536).toNat - (0 : Int).toNat)), v5598), ⟨hv5599⟩, ⟨trivial⟩, ?_⟩
                refine And.intro ⟨(len_vw (by first | omega | (dsimp only; omega))).symm, by first | omega | (dsimp only; omega), ei_vw⟩ ?_
                refine ⟨(s4494.1, false, [], 0, [(16, v5598, 0, false, false, false)]), ⟨H⟩, ⟨rfl⟩, ?_⟩
                repeat refine mo1_LiftD4 ?_
                first | exact trivial | exact rfl
            · refine ob_ck H fun h5600 H => ?_
              refine ob_ck H fun h5601 H => ?_
              refine And.intro ⟨by kernel_rfl⟩ ?_
              refine ⟨(Pn.calm 0 (Pn.calm 1 (Pn.calm 2 (Pn.calm 3 (Pn.calm 4 (Pn.calm 5 (Pn.calm 6 (Pn.calm 7 (Pn.calm 8 (Pn.calm 9 (Pn.calm 10 (Pn.calm 11 (Pn.eff 12 [4, 11, 3, 5, 10, 2, 9, 1, 6, 8, 7] (Pn.calm 13 (Pn.calm 14 (Pn.eff 15 [14, 12, 0, 1, 2, 3, 4, 5, 6, 7, 8, 9, 10, 11, 13] Pn.done Pn.no))) Pn.no))))))))))))), ⟨by kernel_rfl⟩, ?_⟩
              refine ob_ck H fun h5602 H => ?_
              refine And.intro ?_ trivial
              refine ob_ck H fun h5603 H => ?_
              intro n5604 zs5606 hn5605 hz5607
              obtain rfl : n5604 = (s4494.2.2.1 ++ bytesOf (((lit [27, 91, 50, 48, 49, 126]).extract (0 : Int).toNat s4494.2.2.2.1.toNat).extract (0 : Int).toNat (gmax 0 (gmin (65542 - ((s4494.2.2.1.length : Nat) : Int)) (((lit [27, 91, 50, 48, 49, 126]).extract (0 : Int).toNat s4494.2.2.2.1.toNat).size : Int))).toNat)).length := hn5605.trans (len_appS (xs := s4494.2.2.1) (s := (((lit [27, 91, 50, 48, 49, 126]).extract (0 : Int).toNat s4494.2.2.2.1.toNat).extract (0 : Int).toNat (gmax 0 (gmin (65542 - ((s4494.2.2.1.length : Nat) : Int)) (((lit [27, 91, 50, 48, 49, 126]).extract (0 : Int).toNat s4494.2.2.2.1.toNat).size : Int))).toNat)))
              obtain rfl : zs5606 = ei .u8 (s4494.2.2.1 ++ bytesOf (((lit [27, 91, 50, 48, 49, 126]).extract (0 : Int).toNat s4494.2.2.2.1.toNat).extract (0 : Int).toNat (gmax 0 (gmin (65542 - ((s4494.2.2.1.length : Nat) : Int)) (((lit [27, 91, 50, 48, 49, 126]).extract (0 : Int).toNat s4494.2.2.2.1.toNat).size : Int))).toNat)) := hz5607.trans (ei_appS (xs := s4494.2.2.1) (s := (((lit [27, 91, 50, 48, 49, 126]).extract (0 : Int).toNat s4494.2.2.2.1.toNat).extract (0 : Int).toNat (gmax 0 (gmin (65542 - ((s4494.2.2.1.length : Nat) : Int)) (((lit [27, 91, 50, 48, 49, 126]).extract (0 : Int).toNat s4494.2.2.2.1.toNat).size : Int))).toNat)))
              refine And.intro ⟨fun _ _ _ h => h⟩ ?_
              refine And.intro ?_ trivial
              refine And.intro ⟨fun _ _ _ h => h⟩ ?_
              refine ob_ck H fun h5608 H => ?_
              refine if_st H (fun h5609 H => ?_) (fun h5609 H => ?_)
              · refine ⟨(s4494.1, s4494.2.1, (s4494.2.2.1 ++ bytesOf (((lit [27, 91, 50, 48, 49, 126]).extract (0 : Int).toNat s4494.2.2.2.1.toNat).extract (0 : Int).toNat (gmax 0 (gmin (65542 - ((s4494.2.2.1.length : Nat) : Int)) (((lit [27, 91, 50, 48, 49, 126]).extract (0 : Int).toNat s4494.2.2.2.1.toNat).size : Int))).toNat)), 1, []), ⟨H⟩, ⟨rfl⟩, ?_⟩
                repeat refine mo1_LiftD4 ?_
                first | exact trivial | exact rfl
              · refine ob_str (l := [a1.getD s4494.2.2.2.2.2.2.toNat 0]) H fun h5610 H => ?_
                refine ob_ck H fun h5611 H => ?_
                refine And.intro ⟨by kernel_rfl⟩ ?_
                refine ⟨(Pn.calm 0 (Pn.calm 1 (Pn.calm 2 (Pn.calm 3 (Pn.calm 4 (Pn.calm 5 (Pn.calm 6 (Pn.calm 7 (Pn.calm 8 (Pn.calm 9 (Pn.calm 10 (Pn.calm 11 (Pn.eff 12 [4, 11, 3, 5, 10, 2, 9, 1, 6, 8, 7] (Pn.calm 13 (Pn.calm 14 (Pn.eff 15 [14, 12, 0, 1, 2, 3, 4, 5, 6, 7, 8, 9, 10, 11, 13] Pn.done Pn.no))) Pn.no))))))))))))), ⟨by kernel_rfl⟩, ?_⟩
                refine ob_ck H fun h5612 H => ?_
                refine And.intro ?_ trivial
                refine ob_ck H fun h5613 H => ?_
                intro n5614 zs5616 hn5615 hz5617
                obtain rfl : n5614 = ((s4494.2.2.1 ++ bytesOf (((lit [27, 91, 50, 48, 49, 126]).extract (0 : Int).toNat s4494.2.2.2.1.toNat).extract (0 : Int).toNat (gmax 0 (gmin (65542 - ((s4494.2.2.1.length : Nat) : Int)) (((lit [27, 91, 50, 48, 49, 126]).extract (0 : Int).toNat s4494.2.2.2.1.toNat).size : Int))).toNat)) ++ bytesOf ((strOf ([a1.getD s4494.2.2.2.2.2.2.toNat 0])).extract (0 : Int).toNat (gmax 0 (gmin (65542 - (((s4494.2.2.1 ++ bytesOf (((lit [27, 91, 50, 48, 49, 126]).extract (0 : Int).toNat s4494.2.2.2.1.toNat).extract (0 : Int).toNat (gmax 0 (gmin (65542 - ((s4494.2.2.1.length : Nat) : Int)) (((lit [27, 91, 50, 48, 49, 126]).extract (0 : Int).toNat s4494.2.2.2.1.toNat).size : Int))).toNat)).length : Nat) : Int)) ((strOf ([a1.getD s4494.2.2.2.2.2.2.toNat 0])).size : Int))).toNat)).length := hn5615.trans (len_appS (xs := (s4494.2.2.1 ++ bytesOf (((lit [27, 91, 50, 48, 49, 126]).extract (0 : Int).toNat s4494.2.2.2.1.toNat).extract (0 : Int).toNat (gmax 0 (gmin (65542 - ((s4494.2.2.1.length : Nat) : Int)) (((lit [27, 91, 50, 48, 49, 126]).extract (0 : Int).toNat s4494.2.2.2.1.toNat).size : Int))).toNat))) (s := ((strOf ([a1.getD s4494.2.2.2.2.2.2.toNat 0])).extract (0 : Int).toNat (gmax 0 (gmin (65542 - (((s4494.2.2.1 ++ bytesOf (((lit [27, 91, 50, 48, 49, 126]).extract (0 : Int).toNat s4494.2.2.2.1.toNat).extract (0 : Int).toNat (gmax 0 (gmin (65542 - ((s4494.2.2.1.length : Nat) : Int)) (((lit [27, 91, 50, 48, 49, 126]).extract (0 : Int).toNat s4494.2.2.2.1.toNat).size : Int))).toNat)).length : Nat) : Int)) ((strOf ([a1.getD s4494.2.2.2.2.2.2.toNat 0])).size : Int))).toNat)))
                obtain rfl : zs5616 = ei .u8 ((s4494.2.2.1 ++ bytesOf (((lit [27, 91, 50, 48, 49, 126]).extract (0 : Int).toNat s4494.2.2.2.1.toNat).extract (0 : Int).toNat (gmax 0 (gmin (65542 - ((s4494.2.2.1.length : Nat) : Int)) (((lit [27, 91, 50, 48, 49, 126]).extract (0 : Int).toNat s4494.2.2.2.1.toNat).size : Int))).toNat)) ++ bytesOf ((strOf ([a1.getD s4494.2.2.2.2.2.2.toNat 0])).extract (0 : Int).toNat (gmax 0 (gmin (65542 - (((s4494.2.2.1 ++ bytesOf (((lit [27, 91, 50, 48, 49, 126]).extract (0 : Int).toNat s4494.2.2.2.1.toNat).extract (0 : Int).toNat (gmax 0 (gmin (65542 - ((s4494.2.2.1.length : Nat) : Int)) (((lit [27, 91, 50, 48, 49, 126]).extract (0 : Int).toNat s4494.2.2.2.1.toNat).size : Int))).toNat)).length : Nat) : Int)) ((strOf ([a1.getD s4494.2.2.2.2.2.2.toNat 0])).size : Int))).toNat)) := hz5617.trans (ei_appS (xs := (s4494.2.2.1 ++ bytesOf (((lit [27, 91, 50, 48, 49, 126]).extract (0 : Int).toNat s4494.2.2.2.1.toNat).extract (0 : Int).toNat (gmax 0 (gmin (65542 - ((s4494.2.2.1.length : Nat) : Int)) (((lit [27, 91, 50, 48, 49, 126]).extract (0 : Int).toNat s4494.2.2.2.1.toNat).size : Int))).toNat))) (s := ((strOf ([a1.getD s4494.2.2.2.2.2.2.toNat 0])).extract (0 : Int).toNat (gmax 0 (gmin (65542 - (((s4494.2.2.1 ++ bytesOf (((lit [27, 91, 50, 48, 49, 126]).extract (0 : Int).toNat s4494.2.2.2.1.toNat).extract (0 : Int).toNat (gmax 0 (gmin (65542 - ((s4494.2.2.1.length : Nat) : Int)) (((lit [27, 91, 50, 48, 49, 126]).extract (0 : Int).toNat s4494.2.2.2.1.toNat).size : Int))).toNat)).length : Nat) : Int)) ((strOf ([a1.getD s4494.2.2.2.2.2.2.toNat 0])).size : Int))).toNat)))
                refine And.intro ⟨fun _ _ _ h => h⟩ ?_
                refine And.intro ?_ trivial
                refine And.intro ⟨fun _ _ _ h => h⟩ ?_
                refine ⟨(s4494.1, s4494.2.1, ((s4494.2.2.1 ++ bytesOf (((lit [27, 91, 50, 48, 49, 126]).extract (0 : Int).toNat s4494.2.2.2.1.toNat).extract (0 : Int).toNat (gmax 0 (gmin (65542 - ((s4494.2.2.1.length : Nat) : Int)) (((lit [27, 91, 50, 48, 49, 126]).extract (0 : Int).toNat s4494.2.2.2.1.toNat).size : Int))).toNat)) ++ bytesOf ((strOf ([a1.getD s4494.2.2.2.2.2.2.toNat 0])).extract (0 : Int).toNat (gmax 0 (gmin (65542 - (((s4494.2.2.1 ++ bytesOf (((lit [27, 91, 50, 48, 49, 126]).extract (0 : Int).toNat s4494.2.2.2.1.toNat).extract (0 : Int).toNat (gmax 0 (gmin (65542 - ((s4494.2.2.1.length : Nat) : Int)) (((lit [27, 91, 50, 48, 49, 126]).extract (0 : Int).toNat s4494.2.2.2.1.toNat).size : Int))).toNat)).length : Nat) : Int)) ((strOf ([a1.getD s4494.2.2.2.2.2.2.toNat 0])).size : Int))).toNat)), 0, []), ⟨H⟩, ⟨rfl⟩, ?_⟩
                repeat refine mo1_LiftD4 ?_
                first | exact trivial | exact rfl
          · refine ob_app (by decide) (by first | exact ei_one | ((repeat (refine List.forall_mem_cons.2 ⟨rfl, ?_⟩)); intro y hy; cases hy; done) | (intro y hy; simp [ei, eb, es, ec, c51] at hy; (first | (rcases hy with rfl | hy) | subst hy | skip); all_goals first | rfl | simp_all [Value.oneCell'])) H fun h5618 H => ?_
            intro n5619 zs5621 hn5620 hz5622
            obtain rfl : n5619 = (s4494.1 ++ [a1.getD s4494.2.2.2.2.2.2.toNat 0]).length := hn5620.trans (by first | exact List.length_append.symm | (simp; done) | (simp; omega))
            obtain rfl : zs5621 = ei .u8 (s4494.1 ++ [a1.getD s4494.2.2.2.2.2.2.toNat 0]) := by first | exact hz5622.trans (ei_app (xs := s4494.1) (ys := ([a1.getD s4494.2.2.2.2.2.2.toNat 0]))).symm | (rw [hz5622, ei_vw]; first | exact ei_app.symm | exact (ei_app (xs := s4494.1)).symm) | (rw [hz5622]; simp [ei, eb, es, ec, c51])
            refine R.cut_fam H 94 [] [] (fun v5713 => [(5, .own 96)]) (fun v5713 => [(0, .cells 55 [.own 94, bS v5713.2.1, .own 95, .v (.int .i64 (v5713.2.2.2.1)), bS a0.2.2.2.2]), (94, .arr 5 1 (v5713.1.length) (ei .u8 (v5713.1))), (95, .arr 5 1 (v5713.2.2.1.length) (ei .u8 (v5713.2.2.1))), (96, .arr 51 6 (v5713.2.2.2.2.length) (ec c51 (v5713.2.2.2.2)))]) [(4, .cells 26 [.own 29]), (5, .cells 3 [.v (.int .i64 (s4494.2.2.2.2.2.1))]), (29, .arr 51 6 (s4494.2.2.2.2.1.length) (ec c51 (s4494.2.2.2.2.1))), (3, .cells 24 [.lp 0 0]), (17, .cells 22 [.v (.slice (A1) (a1.length) (cp1))]), (21, .loop .busy none), (22, .dfr), (56, .arr 5 1 (1) (ei .u8 ([a1.getD s4494.2.2.2.2.2.2.toNat 0])))] 3 (fun H => ?_)
            refine And.intro ?_ ?_
            · refine R.loop_fam (bind_st H) [0] [(100000, 2, 5, 1), (5, 0, 51, 6)] (fun _ s5717 => [(5, .own 65)]) (fun _ s5717 => [(0, .cells 55 [.own 63, bS s5717.2.1, .own 64, .v (.int .i64 (s5717.2.2.2.1)), bS a0.2.2.2.2]), (63, .arr 5 1 (s5717.1.length) (ei .u8 (s5717.1))), (64, .arr 5 1 (s5717.2.2.1.length) (ei .u8 (s5717.2.2.1))), (65, .arr 51 6 (s5717.2.2.2.2.length) (ec c51 (s5717.2.2.2.2)))]) 3 (fun n5804 H => ?_)
              refine ⟨(n5804, _), ⟨H⟩, ⟨trivial⟩, ?_⟩
              repeat refine mo1_LiftD4 ?_
              rintro ⟨m0, s5717⟩ H _
              obtain ⟨m5718, hm0, H⟩ := IG_succ H
              dsimp only at hm0
              subst hm0
              try dsimp only at H
              refine if_st H (fun h5776 H => ?_) (fun h5776 H => ?_)
              · refine if_st H (fun h5777 H => ?_) (fun h5777 H => ?_)
                · obtain ⟨v5778, hv5779, H⟩ := call_st H
                  refine ⟨(s5717.1, v5778), ⟨hv5779⟩, ⟨trivial⟩, ?_⟩
                  refine And.intro ⟨by first | rfl | (simp; done), by first | rfl | (simp [ei, eb, es, ec, c51]; done) | (simp only [ei, eb, es, ec, c51, List.map_append, List.nil_append, List.append_assoc]; rfl)⟩ ?_
                  refine if_st H (fun h5780 H => ?_) (fun h5780 H => ?_)
                  · replace H := some_st H
                    dsimp only [stp, sm] at H
                    refine ⟨(s5717.1, s5717.2.1, s5717.2.2.1, s5717.2.2.2.1, s5717.2.2.2.2), ⟨H⟩, ⟨rfl⟩, ?_⟩
                    repeat refine mo1_LiftD4 ?_
                    first | exact trivial | exact rfl
                  · refine And.intro ⟨by kernel_rfl⟩ ?_
                    refine ⟨(Pn.calm 0 (Pn.calm 2 (Pn.calm 3 (Pn.calm 4 (Pn.calm 5 (Pn.calm 6 (Pn.calm 7 (Pn.calm 8 (Pn.eff 1 [] (Pn.eff 9 [1, 8, 5, 7, 4, 6, 3, 2] (Pn.calm 10 (Pn.calm 11 (Pn.eff 12 [11, 9, 0, 1, 2, 3, 4, 5, 6, 7, 8, 10] Pn.done Pn.no))) Pn.no) Pn.no))))))))), ⟨by kernel_rfl⟩, ?_⟩
                    refine ob_ck H fun h5781 H => ?_
                    try dsimp only at h5781
                    intro n5782 hn5783
                    subst hn5783
                    refine And.intro ?_ trivial
                    refine And.intro ⟨rfl⟩ ?_
                    refine And.intro ?_ trivial
                    refine And.intro ⟨by first | omega | (dsimp only; omega)⟩ ?_
                    refine ob_app (by decide) (by first | exact (vw_one ei_one) | ((repeat (refine List.forall_mem_cons.2 ⟨rfl, ?_⟩)); intro y hy; cases hy; done) | (intro y hy; simp [ei, eb, es, ec, c51] at hy; (first | (rcases hy with rfl | hy) | subst hy | skip); all_goals first | rfl | simp_all [Value.oneCell'])) H fun h5784 H => ?_
                    intro n5785 zs5787 hn5786 hz5788
                    obtain rfl : n5785 = (([] : List Int) ++ ((s5717.1.drop v5778.1.toNat).take (((s5717.1.length : Nat) : Int).toNat - v5778.1.toNat))).length := hn5786.trans (by first | exact List.length_append.symm | (simp; done) | (simp; omega))
                    obtain rfl : zs5787 = ei .u8 (([] : List Int) ++ ((s5717.1.drop v5778.1.toNat).take (((s5717.1.length : Nat) : Int).toNat - v5778.1.toNat))) := by first | exact hz5788.trans (ei_app (xs := ([] : List Int)) (ys := ((s5717.1.drop v5778.1.toNat).take (((s5717.1.length : Nat) : Int).toNat - v5778.1.toNat)))).symm | (rw [hz5788, ei_vw]; first | exact ei_app.symm | exact (ei_app (xs := ([] : List Int))).symm) | (rw [hz5788]; simp [ei, eb, es, ec, c51])
                    refine And.intro ⟨fun _ _ _ h => h⟩ ?_
                    refine And.intro ?_ trivial
                    refine And.intro ⟨fun _ _ _ h => h⟩ ?_
                    refine R.cut_fam H 101 [0, 6, 31, 32, 33, 34, 35] [] (fun v5795 => [(5, .own 101)]) (fun v5795 => [(101, .arr 51 6 (v5795.length) (ec c51 (v5795)))]) [(64, .arr 5 1 (s5717.2.2.1.length) (ei .u8 (s5717.2.2.1))), (4, .cells 26 [.own 29]), (5, .cells 3 [.v (.int .i64 (s4494.2.2.2.2.2.1))]), (29, .arr 51 6 (s4494.2.2.2.2.1.length) (ec c51 (s4494.2.2.2.2.1))), (3, .cells 24 [.lp 0 0]), (17, .cells 22 [.v (.slice (A1) (a1.length) (cp1))]), (21, .loop .busy none), (22, .dfr), (56, .arr 5 1 (1) (ei .u8 ([a1.getD s4494.2.2.2.2.2.2.toNat 0]))), (0, .cells 55 [.own 90, bS s5717.2.1, .own 64, .v (.int .i64 (s5717.2.2.2.1)), bS a0.2.2.2.2]), (63, .arr 5 1 (s5717.1.length) (ei .u8 (s5717.1))), (84, .cells 71 [.v (.int .i64 (v5778.1)), .v (.int .i64 (v5778.2.1)), .v (.string (v5778.2.2.1)), .v (.int .i64 (v5778.2.2.2.1)), bS v5778.2.2.2.2.1, bS v5778.2.2.2.2.2.1, bS v5778.2.2.2.2.2.2.1, bS v5778.2.2.2.2.2.2.2.1, bS v5778.2.2.2.2.2.2.2.2]), (90, .arr 5 1 ((([] : List Int) ++ ((s5717.1.drop v5778.1.toNat).take (((s5717.1.length : Nat) : Int).toNat - v5778.1.toNat))).length) (ei .u8 ((([] : List Int) ++ ((s5717.1.drop v5778.1.toNat).take (((s5717.1.length : Nat) : Int).toNat - v5778.1.toNat))))))] 1 (fun H => ?_)
                    refine And.intro ?_ ?_
                    · refine if_st H (fun h5797 H => ?_) (fun h5797 H => ?_)
                      · refine ob_app (by decide) (by first | exact (ec_one c51_one) | ((repeat (refine List.forall_mem_cons.2 ⟨rfl, ?_⟩)); intro y hy; cases hy; done) | (intro y hy; simp [ei, eb, es, ec, c51] at hy; (first | (rcases hy with rfl | hy) | subst hy | skip); all_goals first | rfl | simp_all [Value.oneCell'])) H fun h5798 H => ?_
                        intro n5799 zs5801 hn5800 hz5802
                        obtain rfl : n5799 = (s5717.2.2.2.2 ++ [(v5778.2.1, v5778.2.2.1, v5778.2.2.2.1, v5778.2.2.2.2.1, v5778.2.2.2.2.2.1, v5778.2.2.2.2.2.2.1)]).length := hn5800.trans (by first | exact List.length_append.symm | (simp; done) | (simp; omega))
                        obtain rfl : zs5801 = ec c51 (s5717.2.2.2.2 ++ [(v5778.2.1, v5778.2.2.1, v5778.2.2.2.1, v5778.2.2.2.2.1, v5778.2.2.2.2.2.1, v5778.2.2.2.2.2.2.1)]) := by first | exact hz5802.trans (ec_app (xs := s5717.2.2.2.2) (ys := ([(v5778.2.1, v5778.2.2.1, v5778.2.2.2.1, v5778.2.2.2.2.1, v5778.2.2.2.2.2.1, v5778.2.2.2.2.2.2.1)]))).symm | (rw [hz5802, ec_vw]; first | exact ec_app.symm | exact (ec_app (xs := s5717.2.2.2.2)).symm) | (rw [hz5802]; simp [ei, eb, es, ec, c51])
                        refine ⟨(s5717.2.2.2.2 ++ [(v5778.2.1, v5778.2.2.1, v5778.2.2.2.1, v5778.2.2.2.2.1, v5778.2.2.2.2.2.1, v5778.2.2.2.2.2.2.1)]), ⟨H⟩, ⟨rfl⟩, ?_⟩
                        repeat refine mo1_LiftD4 ?_
                        first | exact trivial | exact rfl
                      · refine ⟨s5717.2.2.2.2, ⟨H⟩, ⟨rfl⟩, ?_⟩
                        repeat refine mo1_LiftD4 ?_
                        first | exact trivial | exact rfl
                    · intro v5795 H
                      refine if_st H (fun h5803 H => ?_) (fun h5803 H => ?_)
                      · replace H := some_st H
                        refine ⟨(m5718, ((([] : List Int) ++ ((s5717.1.drop v5778.1.toNat).take (((s5717.1.length : Nat) : Int).toNat - v5778.1.toNat))), true, [], 0, v5795)), ⟨H, Nat.lt_succ_self _⟩, ⟨trivial⟩, ⟨rfl⟩, ?_⟩
                        repeat refine mo1_LiftD4 ?_
                        first | exact trivial | exact rfl
                      · replace H := some_st H
                        refine ⟨(m5718, ((([] : List Int) ++ ((s5717.1.drop v5778.1.toNat).take (((s5717.1.length : Nat) : Int).toNat - v5778.1.toNat))), s5717.2.1, s5717.2.2.1, s5717.2.2.2.1, v5795)), ⟨H, Nat.lt_succ_self _⟩, ⟨trivial⟩, ⟨rfl⟩, ?_⟩
                        repeat refine mo1_LiftD4 ?_
                        first | exact trivial | exact rfl
                · replace H := some_st H
                  dsimp only [stp, sm] at H
                  refine ⟨(s5717.1, s5717.2.1, s5717.2.2.1, s5717.2.2.2.1, s5717.2.2.2.2), ⟨H⟩, ⟨rfl⟩, ?_⟩
                  repeat refine mo1_LiftD4 ?_
                  first | exact trivial | exact rfl
              · replace H := some_st H
                dsimp only [stp, sm] at H
                refine ⟨(s5717.1, s5717.2.1, s5717.2.2.1, s5717.2.2.2.1, s5717.2.2.2.2), ⟨H⟩, ⟨rfl⟩, ?_⟩
                repeat refine mo1_LiftD4 ?_
                first | exact trivial | exact rfl
            · intro v5713 H
              refine ⟨(v5713.1, v5713.2.1, v5713.2.2.1, v5713.2.2.2.1, v5713.2.2.2.2), ⟨H⟩, ⟨rfl⟩, ?_⟩
              repeat refine mo1_LiftD4 ?_
              first | exact trivial | exact rfl
        · intro v5588 H
          refine ob_ck H fun h5805 H => ?_
          refine if_st H (fun h5806 H => ?_) (fun h5806 H => ?_)
          · refine And.intro ⟨by kernel_rfl⟩ ?_
            refine ⟨(Pn.calm 0 (Pn.calm 1 (Pn.eff 2 [0] (Pn.eff 3 [1, 2, 0] Pn.done Pn.no) Pn.no))), ⟨by kernel_rfl⟩, ?_⟩
            refine And.intro ?_ trivial
            refine And.intro ⟨rfl⟩ ?_
            refine And.intro ?_ trivial
            refine And.intro ⟨fun _ _ _ h => h⟩ ?_
            replace H := some_st H
            dsimp only [stp, sm] at H
            have hfin := fin_st H
            repeat refine mf1_LiftD4 ?_
            first | exact trivial | exact rfl
          · refine ob_ck H fun h5807 H => ?_
            replace H := some_st H
            refine ⟨(m4495, (v5588.1, v5588.2.1, v5588.2.2.1, v5588.2.2.2.1, v5588.2.2.2.2, s4494.2.2.2.2.2.1 + 1, s4494.2.2.2.2.2.2 + 1)), ⟨H, Nat.lt_succ_self _⟩, ⟨trivial⟩, ⟨rfl⟩, ?_⟩
            repeat refine mo1_LiftD4 ?_
            first | exact trivial | exact rfl
      · replace H := some_st H
        dsimp only [stp, sm] at H
        refine ⟨(s4494.1, s4494.2.1, s4494.2.2.1, s4494.2.2.2.1, s4494.2.2.2.2.1, s4494.2.2.2.2.2.1), ⟨H⟩, ⟨rfl⟩, ?_⟩
        repeat refine mo1_LiftD4 ?_
        first | exact trivial | exact rfl
    · intro v4490 H
      refine And.intro ⟨by kernel_rfl⟩ ?_
      refine ⟨(Pn.calm 0 (Pn.eff 1 [] (Pn.eff 2 [0, 1] Pn.done Pn.no) Pn.no)), ⟨by kernel_rfl⟩, ?_⟩
      refine And.intro ?_ trivial
      refine And.intro ⟨rfl⟩ ?_
      refine And.intro ?_ trivial
      refine And.intro ⟨fun _ _ _ h => h⟩ ?_
      have hfin := fin_st H
      repeat refine mf1_LiftD4 ?_
      first | exact trivial | exact rfl

end Go.Proofs.YtenjkphlbdhaiaaDoor
