/-
  Functions of the program, lifted: each with its walk. Printed by lift.py.
  Nothing here is trusted.
-/
import Derived.Test.YtenjkphlbdhaiaaDoorLiftD3
set_option linter.unusedVariables false
set_option linter.unusedSimpArgs false
namespace Go.Proofs.YtenjkphlbdhaiaaDoor
open Go Go.Eng

def c51 (p : (Int × ByteArray × Int × Bool × Bool × Bool)) : List Value := [.int .i64 p.1, .string p.2.1, .int .i64 p.2.2.1, .bool p.2.2.2.1, .bool p.2.2.2.2.1, .bool p.2.2.2.2.2]
theorem c51_len : ∀ a, (c51 a).length = 6 := fun _ => rfl
theorem c51_one : ∀ a, ∀ y ∈ c51 a, y.oneCell' = true := by intro a y hy; simp only [c51, List.mem_cons, List.not_mem_nil, or_false] at hy; rcases hy with rfl | rfl | rfl | rfl | rfl | rfl <;> rfl
theorem mo1_LiftE4 {p q : Prop} (k : q) (h : p := by first | exact rfl | exact Iff.rfl | exact ⟨rfl, rfl⟩ | exact decide_eq_true_iff | (constructor <;> first | exact rfl | (simp only [ei, eb, es, ec, c51, gmin, gmax, List.map_append, List.flatMap_append, List.nil_append, List.append_nil, List.append_assoc]; done) | omega | (simp only [List.nil_append, List.length_append, List.length_cons, List.length_nil]; omega) | (simp [ei, eb, es, ec, c51, gmin, gmax]; done)) | exact rfl | (simp only [ei, eb, es, ec, c51, gmin, gmax, List.map_append, List.flatMap_append, List.nil_append, List.append_nil, List.append_assoc]; done) | omega | (simp only [List.nil_append, List.length_append, List.length_cons, List.length_nil]; omega) | (simp [ei, eb, es, ec, c51, gmin, gmax]; done) | simp [ei, eb, es, ec, c51, gmin, gmax]) : Ob p ∧ q := ⟨⟨h⟩, k⟩
theorem mf1_LiftE4 {p q : Prop} (k : q) (h : p := by first | (rw [← hfin] <;> first | exact rfl | exact Iff.rfl | exact ⟨rfl, rfl⟩ | exact decide_eq_true_iff | (constructor <;> first | exact rfl | (simp only [ei, eb, es, ec, c51, gmin, gmax, List.map_append, List.flatMap_append, List.nil_append, List.append_nil, List.append_assoc]; done) | omega | (simp only [List.nil_append, List.length_append, List.length_cons, List.length_nil]; omega) | (simp [ei, eb, es, ec, c51, gmin, gmax]; done)) | exact rfl | (simp only [ei, eb, es, ec, c51, gmin, gmax, List.map_append, List.flatMap_append, List.nil_append, List.append_nil, List.append_assoc]; done) | omega | (simp only [List.nil_append, List.length_append, List.length_cons, List.length_nil]; omega) | (simp [ei, eb, es, ec, c51, gmin, gmax]; done) | simp [ei, eb, es, ec, c51, gmin, gmax]) | first | exact rfl | exact Iff.rfl | exact ⟨rfl, rfl⟩ | exact decide_eq_true_iff | (constructor <;> first | exact rfl | (simp only [ei, eb, es, ec, c51, gmin, gmax, List.map_append, List.flatMap_append, List.nil_append, List.append_nil, List.append_assoc]; done) | omega | (simp only [List.nil_append, List.length_append, List.length_cons, List.length_nil]; omega) | (simp [ei, eb, es, ec, c51, gmin, gmax]; done)) | exact rfl | (simp only [ei, eb, es, ec, c51, gmin, gmax, List.map_append, List.flatMap_append, List.nil_append, List.append_nil, List.append_assoc]; done) | omega | (simp only [List.nil_append, List.length_append, List.length_cons, List.length_nil]; omega) | (simp [ei, eb, es, ec, c51, gmin, gmax]; done) | simp [ei, eb, es, ec, c51, gmin, gmax]) : Ob p ∧ q := ⟨⟨h⟩, k⟩
/-- placard/placardref07.Same -/
noncomputable def g10 (a0 : List (Int × ByteArray × Int × Bool × Bool × Bool)) (a1 : List (Int × ByteArray × Int × Bool × Bool × Bool)) : Option (Bool) :=
  if ¬ ((a0.length : Nat) : Int) = ((a1.length : Nat) : Int) then
    some false
  else
    (
      jn (α := _) (β := Unit) (fun k31 =>
          (loopO (σ := Int) (ρ := (Unit) ⊕ (Unit)) (fun s34 =>
              if s34 < ((a0.length : Nat) : Int) then
                (
                  ck (0 ≤ s34 ∧ s34 < ((a0.length : Nat) : Int)) <|
                  ck (0 ≤ s34 ∧ s34 < ((a1.length : Nat) : Int)) <|
                  if ¬ (((a0.getD s34.toNat default).1) = ((a1.getD s34.toNat default).1) ∧ (((a0.getD s34.toNat default).2.1).data.toList = ((a1.getD s34.toNat default).2.1).data.toList ∧ (((a0.getD s34.toNat default).2.2.1) = ((a1.getD s34.toNat default).2.2.1) ∧ (((((a0.getD s34.toNat default).2.2.2.1) = true) ↔ (((a1.getD s34.toNat default).2.2.2.1) = true)) ∧ (((((a0.getD s34.toNat default).2.2.2.2.1) = true) ↔ (((a1.getD s34.toNat default).2.2.2.2.1) = true)) ∧ (((((a0.getD s34.toNat default).2.2.2.2.2) = true) ↔ (((a1.getD s34.toNat default).2.2.2.2.2) = true)) ∧ True)))))) then
                    some (.out (.inl (())))
                  else
                    (
                      ck (inR .i64 (s34 + 1)) <|
                      some (.go (s34 + 1))
                    )
                )
              else
                some (.out (.inr (())))
            ) 0).bind fun o46 =>
          sm o46 (fun o52 =>
              some false
            ) (fun o53 =>
              k31 ()
            )
      ) (fun v30 =>
        some true
      )
    )
noncomputable def k10 : Eng.CS := { f := 10, calm := true, more := 0, ι := (List (Int × ByteArray × Int × Bool × Bool × Bool)) × (List (Int × ByteArray × Int × Bool × Bool × Bool)) × Bool, ok := fun i => g10 i.1 i.2.1 = some i.2.2, rds := fun _ => [], args := fun i => [.sl 6 i.1.length (ec c51 i.1), .sl 6 i.2.1.length (ec c51 i.2.1)], res := fun i => bS i.2.2 }
set_option maxRecDepth 8000 in
set_option maxHeartbeats 4000000 in
theorem k10_ok : CalmOk Tryd.prog k10 := by
  refine R.calmspec Tryd.func10 nm10 rfl ?_
  rintro ⟨a0, a1, r⟩ hok q _ args hargs
  match args, hargs with
  | [_, _], hargs =>
  obtain ⟨⟨A0, cp0, rfl, hc0, _, hR0⟩, ⟨A1, cp1, rfl, hc1, _, hR1⟩, _⟩ := hargs
  refine ⟨envC [] false [(10, 8)], 6, envC_ok (css_nil), rfl, (by intro x hx; simp only [List.mem_cons, List.not_mem_nil, or_false] at hx; rcases hx with rfl | rfl <;> rfl), ?_⟩
  have H : Gives (g10 a0 a1) (fun a => a = r) := ⟨r, hok, rfl⟩
  unfold g10 at H
  clear hok
  refine if_st H (fun h2 H => ?_) (fun h2 H => ?_)
  · have hfin := fin_st H
    repeat refine mf1_LiftE4 ?_
    first | exact trivial | exact rfl
  · refine R.cut_fam H 13 [] [] (fun v30 => []) (fun v30 => []) [] 0 (fun H => ?_)
    refine And.intro ?_ ?_
    · refine R.loop_fam (bind_st H) [0, 1] [] (fun _ s34 => [(5, .v (.int .i64 (s34)))]) (fun _ s34 => []) 0 (fun n54 H => ?_)
      refine ⟨(n54, _), ⟨H⟩, ⟨trivial⟩, ?_⟩
      repeat refine mo1_LiftE4 ?_
      rintro ⟨m0, s34⟩ H _
      obtain ⟨m35, hm0, H⟩ := IG_succ H
      dsimp only at hm0
      subst hm0
      try dsimp only at H
      refine if_st H (fun h47 H => ?_) (fun h47 H => ?_)
      · refine And.intro ⟨by kernel_rfl⟩ ?_
        refine ob_ix hR0 (fun h => ec0 c51_len (by decide) h) H fun h48 H => ?_
        refine ld_int (e := (a0.getD s34.toNat default).1) (rd_get hR0 ((ec_get (i := s34.toNat) (o := 0) c51_len (tn h48) (by decide)).trans rfl)) ?_
        refine ld_str (e := (a0.getD s34.toNat default).2.1) (rd_get hR0 ((ec_get (i := s34.toNat) (o := 1) c51_len (tn h48) (by decide)).trans rfl)) ?_
        refine ld_int (e := (a0.getD s34.toNat default).2.2.1) (rd_get hR0 ((ec_get (i := s34.toNat) (o := 2) c51_len (tn h48) (by decide)).trans rfl)) ?_
        refine ld_bool (e := (a0.getD s34.toNat default).2.2.2.1) (rd_get hR0 ((ec_get (i := s34.toNat) (o := 3) c51_len (tn h48) (by decide)).trans rfl)) ?_
        refine ld_bool (e := (a0.getD s34.toNat default).2.2.2.2.1) (rd_get hR0 ((ec_get (i := s34.toNat) (o := 4) c51_len (tn h48) (by decide)).trans rfl)) ?_
        refine ld_bool (e := (a0.getD s34.toNat default).2.2.2.2.2) (rd_get hR0 ((ec_get (i := s34.toNat) (o := 5) c51_len (tn h48) (by decide)).trans rfl)) ?_
        refine ob_ix hR1 (fun h => ec0 c51_len (by decide) h) H fun h49 H => ?_
        refine ld_int (e := (a1.getD s34.toNat default).1) (rd_get hR1 ((ec_get (i := s34.toNat) (o := 0) c51_len (tn h49) (by decide)).trans rfl)) ?_
        refine ld_str (e := (a1.getD s34.toNat default).2.1) (rd_get hR1 ((ec_get (i := s34.toNat) (o := 1) c51_len (tn h49) (by decide)).trans rfl)) ?_
        refine ld_int (e := (a1.getD s34.toNat default).2.2.1) (rd_get hR1 ((ec_get (i := s34.toNat) (o := 2) c51_len (tn h49) (by decide)).trans rfl)) ?_
        refine ld_bool (e := (a1.getD s34.toNat default).2.2.2.1) (rd_get hR1 ((ec_get (i := s34.toNat) (o := 3) c51_len (tn h49) (by decide)).trans rfl)) ?_
        refine ld_bool (e := (a1.getD s34.toNat default).2.2.2.2.1) (rd_get hR1 ((ec_get (i := s34.toNat) (o := 4) c51_len (tn h49) (by decide)).trans rfl)) ?_
        refine ld_bool (e := (a1.getD s34.toNat default).2.2.2.2.2) (rd_get hR1 ((ec_get (i := s34.toNat) (o := 5) c51_len (tn h49) (by decide)).trans rfl)) ?_
        refine if_st H (fun h50 H => ?_) (fun h50 H => ?_)
        · replace H := some_st H
          dsimp only [stp, sm] at H
          have hfin := fin_st H
          repeat refine mf1_LiftE4 ?_
          first | exact trivial | exact rfl
        · refine ob_ck H fun h51 H => ?_
          replace H := some_st H
          refine ⟨(m35, s34 + 1), ⟨H, Nat.lt_succ_self _⟩, ⟨trivial⟩, ⟨rfl⟩, ?_⟩
          repeat refine mo1_LiftE4 ?_
          first | exact trivial | exact rfl
      · replace H := some_st H
        dsimp only [stp, sm] at H
        refine ⟨(), ⟨H⟩, ⟨rfl⟩, ?_⟩
        repeat refine mo1_LiftE4 ?_
        first | exact trivial | exact rfl
    · intro v30 H
      have hfin := fin_st H
      repeat refine mf1_LiftE4 ?_
      first | exact trivial | exact rfl

/-- placard/placardref07.end -/
noncomputable def g25 (a0 : List Int) : Option (Int) :=
  jn (α := _) (β := Unit) (fun k103 =>
      (loopO (σ := Int) (ρ := (Int) ⊕ (Unit)) (fun s106 =>
          ck (inR .i64 (s106 + 6)) <|
          if (s106 + 6) ≤ ((a0.length : Nat) : Int) then
            (
              ck (inR .i64 (s106 + 6)) <|
              ck (0 ≤ s106 ∧ s106 ≤ s106 + 6 ∧ s106 + 6 ≤ ((a0.length : Nat) : Int)) <|
              ck (isBytes ((a0.drop s106.toNat).take ((s106 + 6).toNat - s106.toNat))) <|
              if (strOf ((a0.drop s106.toNat).take ((s106 + 6).toNat - s106.toNat))).data.toList = (lit [27, 91, 50, 48, 49, 126]).data.toList then
                some (.out (.inl (s106)))
              else
                (
                  ck (inR .i64 (s106 + 1)) <|
                  some (.go (s106 + 1))
                )
            )
          else
            some (.out (.inr (())))
        ) 0).bind fun o128 =>
      sm o128 (fun o139 =>
          some o139
        ) (fun o140 =>
          k103 ()
        )
  ) (fun v102 =>
    some (-1)
  )
noncomputable def k25 : Eng.CS := { f := 25, calm := true, more := 0, ι := (List Int) × Int, ok := fun i => g25 i.1 = some i.2, rds := fun _ => [], args := fun i => [.sl 1 i.1.length (ei .u8 i.1)], res := fun i => .v (.int .i64 (i.2)) }
set_option maxRecDepth 8000 in
set_option maxHeartbeats 4000000 in
theorem k25_ok : CalmOk Tryd.prog k25 := by
  refine R.calmspec Tryd.func25 nm25 rfl ?_
  rintro ⟨a0, r⟩ hok q _ args hargs
  match args, hargs with
  | [_], hargs =>
  obtain ⟨⟨A0, cp0, rfl, hc0, _, hR0⟩, _⟩ := hargs
  refine ⟨envC [] false [(25, 6)], 6, envC_ok (css_nil), rfl, (by intro x hx; simp only [List.mem_cons, List.not_mem_nil, or_false] at hx; rcases hx with rfl <;> rfl), ?_⟩
  have H : Gives (g25 a0) (fun a => a = r) := ⟨r, hok, rfl⟩
  unfold g25 at H
  clear hok
  refine R.cut_fam H 9 [] [] (fun v102 => []) (fun v102 => []) [] 0 (fun H => ?_)
  refine And.intro ?_ ?_
  · refine R.loop_fam (bind_st H) [0] [] (fun _ s106 => [(3, .v (.int .i64 (s106)))]) (fun _ s106 => []) 0 (fun n141 H => ?_)
    refine ⟨(n141, _), ⟨H⟩, ⟨trivial⟩, ?_⟩
    repeat refine mo1_LiftE4 ?_
    rintro ⟨m0, s106⟩ H _
    obtain ⟨m107, hm0, H⟩ := IG_succ H
    dsimp only at hm0
    subst hm0
    try dsimp only at H
    refine ob_ck H fun h129 H => ?_
    refine if_st H (fun h130 H => ?_) (fun h130 H => ?_)
    · refine ob_ck H fun h131 H => ?_
      refine ob_sl hc0 H fun h132 H => ?_
      have hs133 := sl_ei hR0 rfl hc0 h132
      intro n134 hn135
      obtain rfl : n134 = ((a0.drop s106.toNat).take ((s106 + 6).toNat - s106.toNat)).length := hn135.trans hs133.2.1.symm
      refine rs_st hs133.1 (by rw [ei_len, Nat.mul_one]) ?_
      refine ob_str (l := ((a0.drop s106.toNat).take ((s106 + 6).toNat - s106.toNat))) H fun h136 H => ?_
      refine if_st H (fun h137 H => ?_) (fun h137 H => ?_)
      · replace H := some_st H
        dsimp only [stp, sm] at H
        have hfin := fin_st H
        repeat refine mf1_LiftE4 ?_
        first | exact trivial | exact rfl
      · refine ob_ck H fun h138 H => ?_
        replace H := some_st H
        refine ⟨(m107, s106 + 1), ⟨H, Nat.lt_succ_self _⟩, ⟨trivial⟩, ⟨rfl⟩, ?_⟩
        repeat refine mo1_LiftE4 ?_
        first | exact trivial | exact rfl
    · replace H := some_st H
      dsimp only [stp, sm] at H
      refine ⟨(), ⟨H⟩, ⟨rfl⟩, ?_⟩
      repeat refine mo1_LiftE4 ?_
      first | exact trivial | exact rfl
  · intro v102 H
    have hfin := fin_st H
    repeat refine mf1_LiftE4 ?_
    first | exact trivial | exact rfl

/-- placard/keyin.word -/
noncomputable def g28 (a0 : (Int × ByteArray × Int × Bool × Bool × Bool)) : Option (ByteArray) :=
  if a0.1 = 1 then
    some (lit [116, 101, 120, 116])
  else
    (
      if a0.1 = 2 then
        some (lit [101, 110, 116, 101, 114])
      else
        (
          if a0.1 = 3 then
            some (lit [116, 97, 98])
          else
            (
              if a0.1 = 4 then
                some (lit [98, 97, 99, 107, 116, 97, 98])
              else
                (
                  if a0.1 = 5 then
                    some (lit [101, 115, 99, 97, 112, 101])
                  else
                    (
                      if a0.1 = 6 then
                        some (lit [98, 97, 99, 107, 115, 112, 97, 99, 101])
                      else
                        (
                          if a0.1 = 7 then
                            some (lit [100, 101, 108, 101, 116, 101])
                          else
                            (
                              if a0.1 = 8 then
                                some (lit [117, 112])
                              else
                                (
                                  if a0.1 = 9 then
                                    some (lit [100, 111, 119, 110])
                                  else
                                    (
                                      if a0.1 = 10 then
                                        some (lit [108, 101, 102, 116])
                                      else
                                        (
                                          if a0.1 = 11 then
                                            some (lit [114, 105, 103, 104, 116])
                                          else
                                            (
                                              if a0.1 = 12 then
                                                some (lit [104, 111, 109, 101])
                                              else
                                                (
                                                  if a0.1 = 13 then
                                                    some (lit [101, 110, 100])
                                                  else
                                                    (
                                                      if a0.1 = 14 then
                                                        some (lit [112, 97, 103, 101, 117, 112])
                                                      else
                                                        (
                                                          if a0.1 = 15 then
                                                            some (lit [112, 97, 103, 101, 100, 111, 119, 110])
                                                          else
                                                            (
                                                              if a0.1 = 16 then
                                                                some (lit [112, 97, 115, 116, 101])
                                                              else
                                                                (
                                                                  if a0.1 = 17 then
                                                                    (
                                                                      ck ((lit [99, 116, 114, 108, 45]).size + a0.2.1.size ≤ 9223372036854775807) <|
                                                                      some ((lit [99, 116, 114, 108, 45]) ++ a0.2.1)
                                                                    )
                                                                  else
                                                                    (
                                                                      if a0.1 = 18 then
                                                                        (
                                                                          if 1 ≤ a0.2.2.1 then
                                                                            (
                                                                              if a0.2.2.1 ≤ 12 then
                                                                                (
                                                                                  jn (α := _) (β := Unit) (fun k349 =>
                                                                                      if 0 ≤ a0.2.2.1 then
                                                                                        (
                                                                                          if a0.2.2.1 < 100 then
                                                                                            (
                                                                                              if a0.2.2.1 < 10 then
                                                                                                (
                                                                                                  ck (inR .i64 (a0.2.2.1 + 1)) <|
                                                                                                  ck (0 ≤ a0.2.2.1 ∧ a0.2.2.1 ≤ a0.2.2.1 + 1 ∧ a0.2.2.1 + 1 ≤ ((lit [48, 49, 50, 51, 52, 53, 54, 55, 56, 57, 97, 98, 99, 100, 101, 102, 103, 104, 105, 106, 107, 108, 109, 110, 111, 112, 113, 114, 115, 116, 117, 118, 119, 120, 121, 122]).size : Int)) <|
                                                                                                  ck ((lit [102]).size + ((lit [48, 49, 50, 51, 52, 53, 54, 55, 56, 57, 97, 98, 99, 100, 101, 102, 103, 104, 105, 106, 107, 108, 109, 110, 111, 112, 113, 114, 115, 116, 117, 118, 119, 120, 121, 122]).extract a0.2.2.1.toNat (a0.2.2.1 + 1).toNat).size ≤ 9223372036854775807) <|
                                                                                                  some ((lit [102]) ++ ((lit [48, 49, 50, 51, 52, 53, 54, 55, 56, 57, 97, 98, 99, 100, 101, 102, 103, 104, 105, 106, 107, 108, 109, 110, 111, 112, 113, 114, 115, 116, 117, 118, 119, 120, 121, 122]).extract a0.2.2.1.toNat (a0.2.2.1 + 1).toNat))
                                                                                                )
                                                                                              else
                                                                                                (
                                                                                                  ck (inR .i64 (a0.2.2.1 * 2)) <|
                                                                                                  ck (inR .i64 (a0.2.2.1 * 2)) <|
                                                                                                  ck (inR .i64 ((a0.2.2.1 * 2) + 2)) <|
                                                                                                  ck (0 ≤ a0.2.2.1 * 2 ∧ a0.2.2.1 * 2 ≤ (a0.2.2.1 * 2) + 2 ∧ (a0.2.2.1 * 2) + 2 ≤ ((lit [48, 48, 48, 49, 48, 50, 48, 51, 48, 52, 48, 53, 48, 54, 48, 55, 48, 56, 48, 57, 49, 48, 49, 49, 49, 50, 49, 51, 49, 52, 49, 53, 49, 54, 49, 55, 49, 56, 49, 57, 50, 48, 50, 49, 50, 50, 50, 51, 50, 52, 50, 53, 50, 54, 50, 55, 50, 56, 50, 57, 51, 48, 51, 49, 51, 50, 51, 51, 51, 52, 51, 53, 51, 54, 51, 55, 51, 56, 51, 57, 52, 48, 52, 49, 52, 50, 52, 51, 52, 52, 52, 53, 52, 54, 52, 55, 52, 56, 52, 57, 53, 48, 53, 49, 53, 50, 53, 51, 53, 52, 53, 53, 53, 54, 53, 55, 53, 56, 53, 57, 54, 48, 54, 49, 54, 50, 54, 51, 54, 52, 54, 53, 54, 54, 54, 55, 54, 56, 54, 57, 55, 48, 55, 49, 55, 50, 55, 51, 55, 52, 55, 53, 55, 54, 55, 55, 55, 56, 55, 57, 56, 48, 56, 49, 56, 50, 56, 51, 56, 52, 56, 53, 56, 54, 56, 55, 56, 56, 56, 57, 57, 48, 57, 49, 57, 50, 57, 51, 57, 52, 57, 53, 57, 54, 57, 55, 57, 56, 57, 57]).size : Int)) <|
                                                                                                  ck ((lit [102]).size + ((lit [48, 48, 48, 49, 48, 50, 48, 51, 48, 52, 48, 53, 48, 54, 48, 55, 48, 56, 48, 57, 49, 48, 49, 49, 49, 50, 49, 51, 49, 52, 49, 53, 49, 54, 49, 55, 49, 56, 49, 57, 50, 48, 50, 49, 50, 50, 50, 51, 50, 52, 50, 53, 50, 54, 50, 55, 50, 56, 50, 57, 51, 48, 51, 49, 51, 50, 51, 51, 51, 52, 51, 53, 51, 54, 51, 55, 51, 56, 51, 57, 52, 48, 52, 49, 52, 50, 52, 51, 52, 52, 52, 53, 52, 54, 52, 55, 52, 56, 52, 57, 53, 48, 53, 49, 53, 50, 53, 51, 53, 52, 53, 53, 53, 54, 53, 55, 53, 56, 53, 57, 54, 48, 54, 49, 54, 50, 54, 51, 54, 52, 54, 53, 54, 54, 54, 55, 54, 56, 54, 57, 55, 48, 55, 49, 55, 50, 55, 51, 55, 52, 55, 53, 55, 54, 55, 55, 55, 56, 55, 57, 56, 48, 56, 49, 56, 50, 56, 51, 56, 52, 56, 53, 56, 54, 56, 55, 56, 56, 56, 57, 57, 48, 57, 49, 57, 50, 57, 51, 57, 52, 57, 53, 57, 54, 57, 55, 57, 56, 57, 57]).extract (a0.2.2.1 * 2).toNat ((a0.2.2.1 * 2) + 2).toNat).size ≤ 9223372036854775807) <|
                                                                                                  some ((lit [102]) ++ ((lit [48, 48, 48, 49, 48, 50, 48, 51, 48, 52, 48, 53, 48, 54, 48, 55, 48, 56, 48, 57, 49, 48, 49, 49, 49, 50, 49, 51, 49, 52, 49, 53, 49, 54, 49, 55, 49, 56, 49, 57, 50, 48, 50, 49, 50, 50, 50, 51, 50, 52, 50, 53, 50, 54, 50, 55, 50, 56, 50, 57, 51, 48, 51, 49, 51, 50, 51, 51, 51, 52, 51, 53, 51, 54, 51, 55, 51, 56, 51, 57, 52, 48, 52, 49, 52, 50, 52, 51, 52, 52, 52, 53, 52, 54, 52, 55, 52, 56, 52, 57, 53, 48, 53, 49, 53, 50, 53, 51, 53, 52, 53, 53, 53, 54, 53, 55, 53, 56, 53, 57, 54, 48, 54, 49, 54, 50, 54, 51, 54, 52, 54, 53, 54, 54, 54, 55, 54, 56, 54, 57, 55, 48, 55, 49, 55, 50, 55, 51, 55, 52, 55, 53, 55, 54, 55, 55, 55, 56, 55, 57, 56, 48, 56, 49, 56, 50, 56, 51, 56, 52, 56, 53, 56, 54, 56, 55, 56, 56, 56, 57, 57, 48, 57, 49, 57, 50, 57, 51, 57, 52, 57, 53, 57, 54, 57, 55, 57, 56, 57, 57]).extract (a0.2.2.1 * 2).toNat ((a0.2.2.1 * 2) + 2).toNat))
                                                                                                )
                                                                                            )
                                                                                          else
                                                                                            k349 ()
                                                                                        )
                                                                                      else
                                                                                        k349 ()
                                                                                  ) (fun v348 =>
                                                                                    jn (α := _) (β := Int) (fun k364 =>
                                                                                        if a0.2.2.1 < 0 then
                                                                                          (
                                                                                            ck (inR .u64 (0 - (IntKind.wrap .u64 a0.2.2.1))) <|
                                                                                            k364 (0 - (IntKind.wrap .u64 a0.2.2.1))
                                                                                          )
                                                                                        else
                                                                                          k364 (IntKind.wrap .u64 a0.2.2.1)
                                                                                    ) (fun v363 =>
                                                                                      jn (α := _) (β := Int × Int) (fun k369 =>
                                                                                          if 4294967296 ≤ v363 then
                                                                                            k369 (v363 / 2 ^ (32 : Int).toNat, 32)
                                                                                          else
                                                                                            k369 (v363, 0)
                                                                                      ) (fun v368 =>
                                                                                        jn (α := _) (β := Int × Int) (fun k374 =>
                                                                                            if 65536 ≤ v368.1 then
                                                                                              (
                                                                                                ck (inR .i64 (v368.2 + 16)) <|
                                                                                                k374 (v368.1 / 2 ^ (16 : Int).toNat, v368.2 + 16)
                                                                                              )
                                                                                            else
                                                                                              k374 (v368.1, v368.2)
                                                                                        ) (fun v373 =>
                                                                                          if 256 ≤ v373.1 then
                                                                                            none
                                                                                          else
                                                                                            none
                                                                                        )
                                                                                      )
                                                                                    )
                                                                                  )
                                                                                )
                                                                              else
                                                                                some (lit [])
                                                                            )
                                                                          else
                                                                            some (lit [])
                                                                        )
                                                                      else
                                                                        some (lit [])
                                                                    )
                                                                )
                                                            )
                                                        )
                                                    )
                                                )
                                            )
                                        )
                                    )
                                )
                            )
                        )
                    )
                )
            )
        )
    )
noncomputable def k28 : Eng.CS := { f := 28, calm := true, more := 0, ι := (Int × ByteArray × Int × Bool × Bool × Bool) × ByteArray, ok := fun i => g28 i.1 = some i.2, rds := fun _ => [], args := fun i => [.w (.agg [.v (.int .i64 (i.1.1)), .v (.string (i.1.2.1)), .v (.int .i64 (i.1.2.2.1)), bS i.1.2.2.2.1, bS i.1.2.2.2.2.1, bS i.1.2.2.2.2.2])], res := fun i => .v (.string (i.2)) }
set_option maxRecDepth 8000 in
set_option maxHeartbeats 4000000 in
theorem k28_ok : CalmOk Tryd.prog k28 := by
  refine R.calmspec Tryd.func28 nm28 rfl ?_
  rintro ⟨a0, r⟩ hok q _ args hargs
  match args, hargs with
  | [_], hargs =>
  obtain ⟨rfl, _⟩ := hargs
  refine ⟨envC [] false [(61, 4), (61, 8), (77, 4), (77, 7)], 6, envC_ok (css_nil), rfl, (by intro x hx; simp only [List.mem_cons, List.not_mem_nil, or_false] at hx; rcases hx with rfl <;> rfl), ?_⟩
  have H : Gives (g28 a0) (fun a => a = r) := ⟨r, hok, rfl⟩
  unfold g28 at H
  clear hok
  refine if_st H (fun h318 H => ?_) (fun h318 H => ?_)
  · have hfin := fin_st H
    repeat refine mf1_LiftE4 ?_
    first | exact trivial | exact rfl
  · refine if_st H (fun h319 H => ?_) (fun h319 H => ?_)
    · have hfin := fin_st H
      repeat refine mf1_LiftE4 ?_
      first | exact trivial | exact rfl
    · refine if_st H (fun h320 H => ?_) (fun h320 H => ?_)
      · have hfin := fin_st H
        repeat refine mf1_LiftE4 ?_
        first | exact trivial | exact rfl
      · refine if_st H (fun h321 H => ?_) (fun h321 H => ?_)
        · have hfin := fin_st H
          repeat refine mf1_LiftE4 ?_
          first | exact trivial | exact rfl
        · refine if_st H (fun h322 H => ?_) (fun h322 H => ?_)
          · have hfin := fin_st H
            repeat refine mf1_LiftE4 ?_
            first | exact trivial | exact rfl
          · refine if_st H (fun h323 H => ?_) (fun h323 H => ?_)
            · have hfin := fin_st H
              repeat refine mf1_LiftE4 ?_
              first | exact trivial | exact rfl
            · refine if_st H (fun h324 H => ?_) (fun h324 H => ?_)
              · have hfin := fin_st H
                repeat refine mf1_LiftE4 ?_
                first | exact trivial | exact rfl
              · refine if_st H (fun h325 H => ?_) (fun h325 H => ?_)
                · have hfin := fin_st H
                  repeat refine mf1_LiftE4 ?_
                  first | exact trivial | exact rfl
                · refine if_st H (fun h326 H => ?_) (fun h326 H => ?_)
                  · have hfin := fin_st H
                    repeat refine mf1_LiftE4 ?_
                    first | exact trivial | exact rfl
                  · refine if_st H (fun h327 H => ?_) (fun h327 H => ?_)
                    · have hfin := fin_st H
                      repeat refine mf1_LiftE4 ?_
                      first | exact trivial | exact rfl
                    · refine if_st H (fun h328 H => ?_) (fun h328 H => ?_)
                      · have hfin := fin_st H
                        repeat refine mf1_LiftE4 ?_
                        first | exact trivial | exact rfl
                      · refine if_st H (fun h329 H => ?_) (fun h329 H => ?_)
                        · have hfin := fin_st H
                          repeat refine mf1_LiftE4 ?_
                          first | exact trivial | exact rfl
                        · refine if_st H (fun h330 H => ?_) (fun h330 H => ?_)
                          · have hfin := fin_st H
                            repeat refine mf1_LiftE4 ?_
                            first | exact trivial | exact rfl
                          · refine if_st H (fun h331 H => ?_) (fun h331 H => ?_)
                            · have hfin := fin_st H
                              repeat refine mf1_LiftE4 ?_
                              first | exact trivial | exact rfl
                            · refine if_st H (fun h332 H => ?_) (fun h332 H => ?_)
                              · have hfin := fin_st H
                                repeat refine mf1_LiftE4 ?_
                                first | exact trivial | exact rfl
                              · refine if_st H (fun h333 H => ?_) (fun h333 H => ?_)
                                · have hfin := fin_st H
                                  repeat refine mf1_LiftE4 ?_
                                  first | exact trivial | exact rfl
                                · refine if_st H (fun h334 H => ?_) (fun h334 H => ?_)
                                  · refine ob_ck H fun h335 H => ?_
                                    have hfin := fin_st H
                                    repeat refine mf1_LiftE4 ?_
                                    first | exact trivial | exact rfl
                                  · refine if_st H (fun h336 H => ?_) (fun h336 H => ?_)
                                    · refine if_st H (fun h337 H => ?_) (fun h337 H => ?_)
                                      · refine if_st H (fun h338 H => ?_) (fun h338 H => ?_)
                                        · refine And.intro (fun _ => ?_) (fun h => absurd (by decide) h)
                                          refine R.cut_fam H 71 [0] [] (fun v348 => []) (fun v348 => []) [(0, .cells 51 [.v (.int .i64 (a0.1)), .v (.string (a0.2.1)), .v (.int .i64 (a0.2.2.1)), bS a0.2.2.2.1, bS a0.2.2.2.2.1, bS a0.2.2.2.2.2])] 0 (fun H => ?_)
                                          refine And.intro ?_ ?_
                                          · refine if_st H (fun h350 H => ?_) (fun h350 H => ?_)
                                            · refine if_st H (fun h351 H => ?_) (fun h351 H => ?_)
                                              · refine if_st H (fun h352 H => ?_) (fun h352 H => ?_)
                                                · refine ob_ck H fun h353 H => ?_
                                                  refine ob_ck H fun h354 H => ?_
                                                  refine ob_ck H fun h355 H => ?_
                                                  have hfin := fin_st H
                                                  repeat refine mf1_LiftE4 ?_
                                                  first | exact trivial | exact rfl
                                                · refine ob_ck H fun h356 H => ?_
                                                  refine ob_ck H fun h357 H => ?_
                                                  refine ob_ck H fun h358 H => ?_
                                                  refine ob_ck H fun h359 H => ?_
                                                  refine ob_ck H fun h360 H => ?_
                                                  have hfin := fin_st H
                                                  repeat refine mf1_LiftE4 ?_
                                                  first | exact trivial | exact rfl
                                              · refine ⟨(), ⟨H⟩, ⟨rfl⟩, ?_⟩
                                                repeat refine mo1_LiftE4 ?_
                                                first | exact trivial | exact rfl
                                            · refine ⟨(), ⟨H⟩, ⟨rfl⟩, ?_⟩
                                              repeat refine mo1_LiftE4 ?_
                                              first | exact trivial | exact rfl
                                          · intro v348 H
                                            refine R.cut_fam H 81 [0, 5] [] (fun v363 => [(6, .v (.int .u64 (v363)))]) (fun v363 => []) [(0, .cells 51 [.v (.int .i64 (a0.1)), .v (.string (a0.2.1)), .v (.int .i64 (a0.2.2.1)), bS a0.2.2.2.1, bS a0.2.2.2.2.1, bS a0.2.2.2.2.2]), (71, .cells 112 [.v (.int .u8 (0)), .v (.int .u8 (0)), .v (.int .u8 (0)), .v (.int .u8 (0)), .v (.int .u8 (0)), .v (.int .u8 (0)), .v (.int .u8 (0)), .v (.int .u8 (0)), .v (.int .u8 (0)), .v (.int .u8 (0)), .v (.int .u8 (0)), .v (.int .u8 (0)), .v (.int .u8 (0)), .v (.int .u8 (0)), .v (.int .u8 (0)), .v (.int .u8 (0)), .v (.int .u8 (0)), .v (.int .u8 (0)), .v (.int .u8 (0)), .v (.int .u8 (0)), .v (.int .u8 (0)), .v (.int .u8 (0)), .v (.int .u8 (0)), .v (.int .u8 (0))])] 0 (fun H => ?_)
                                            refine And.intro ?_ ?_
                                            · refine if_st H (fun h365 H => ?_) (fun h365 H => ?_)
                                              · refine ob_ck H fun h366 H => ?_
                                                refine ⟨0 - (IntKind.wrap .u64 a0.2.2.1), ⟨H⟩, ⟨rfl⟩, ?_⟩
                                                repeat refine mo1_LiftE4 ?_
                                                first | exact trivial | exact rfl
                                              · refine ⟨IntKind.wrap .u64 a0.2.2.1, ⟨H⟩, ⟨rfl⟩, ?_⟩
                                                repeat refine mo1_LiftE4 ?_
                                                first | exact trivial | exact rfl
                                            · intro v363 H
                                              refine R.cut_fam H 97 [] [] (fun v368 => [(0, .v (.int .u64 (v368.1))), (2, .v (.int .i64 (v368.2)))]) (fun v368 => []) [(0, .cells 51 [.v (.int .i64 (a0.1)), .v (.string (a0.2.1)), .v (.int .i64 (a0.2.2.1)), bS a0.2.2.2.1, bS a0.2.2.2.2.1, bS a0.2.2.2.2.2]), (71, .cells 112 [.v (.int .u8 (0)), .v (.int .u8 (0)), .v (.int .u8 (0)), .v (.int .u8 (0)), .v (.int .u8 (0)), .v (.int .u8 (0)), .v (.int .u8 (0)), .v (.int .u8 (0)), .v (.int .u8 (0)), .v (.int .u8 (0)), .v (.int .u8 (0)), .v (.int .u8 (0)), .v (.int .u8 (0)), .v (.int .u8 (0)), .v (.int .u8 (0)), .v (.int .u8 (0)), .v (.int .u8 (0)), .v (.int .u8 (0)), .v (.int .u8 (0)), .v (.int .u8 (0)), .v (.int .u8 (0)), .v (.int .u8 (0)), .v (.int .u8 (0)), .v (.int .u8 (0))])] 0 (fun H => ?_)
                                              refine And.intro ?_ ?_
                                              · refine if_st H (fun h370 H => ?_) (fun h370 H => ?_)
                                                · refine And.intro ⟨by decide⟩ ?_
                                                  refine ⟨(v363 / 2 ^ (32 : Int).toNat, 32), ⟨H⟩, ⟨rfl⟩, ?_⟩
                                                  repeat refine mo1_LiftE4 ?_
                                                  first | exact trivial | exact rfl
                                                · refine ⟨(v363, 0), ⟨H⟩, ⟨rfl⟩, ?_⟩
                                                  repeat refine mo1_LiftE4 ?_
                                                  first | exact trivial | exact rfl
                                              · intro v368 H
                                                refine R.cut_fam H 106 [] [] (fun v373 => [(0, .v (.int .u64 (v373.1))), (2, .v (.int .i64 (v373.2)))]) (fun v373 => []) [(0, .cells 51 [.v (.int .i64 (a0.1)), .v (.string (a0.2.1)), .v (.int .i64 (a0.2.2.1)), bS a0.2.2.2.1, bS a0.2.2.2.2.1, bS a0.2.2.2.2.2]), (71, .cells 112 [.v (.int .u8 (0)), .v (.int .u8 (0)), .v (.int .u8 (0)), .v (.int .u8 (0)), .v (.int .u8 (0)), .v (.int .u8 (0)), .v (.int .u8 (0)), .v (.int .u8 (0)), .v (.int .u8 (0)), .v (.int .u8 (0)), .v (.int .u8 (0)), .v (.int .u8 (0)), .v (.int .u8 (0)), .v (.int .u8 (0)), .v (.int .u8 (0)), .v (.int .u8 (0)), .v (.int .u8 (0)), .v (.int .u8 (0)), .v (.int .u8 (0)), .v (.int .u8 (0)), .v (.int .u8 (0)), .v (.int .u8 (0)), .v (.int .u8 (0)), .v (.int .u8 (0))])] 0 (fun H => ?_)
                                                refine And.intro ?_ ?_
                                                · refine if_st H (fun h375 H => ?_) (fun h375 H => ?_)
                                                  · refine And.intro ⟨by decide⟩ ?_
                                                    refine ob_ck H fun h376 H => ?_
                                                    refine ⟨(v368.1 / 2 ^ (16 : Int).toNat, v368.2 + 16), ⟨H⟩, ⟨rfl⟩, ?_⟩
                                                    repeat refine mo1_LiftE4 ?_
                                                    first | exact trivial | exact rfl
                                                  · refine ⟨(v368.1, v368.2), ⟨H⟩, ⟨rfl⟩, ?_⟩
                                                    repeat refine mo1_LiftE4 ?_
                                                    first | exact trivial | exact rfl
                                                · intro v373 H
                                                  refine if_st H (fun h377 H => ?_) (fun h377 H => ?_)
                                                  · exact (none_st H).elim
                                                  · exact (none_st H).elim
                                        · have hfin := fin_st H
                                          repeat refine mf1_LiftE4 ?_
                                          first | exact trivial | exact rfl
                                      · have hfin := fin_st H
                                        repeat refine mf1_LiftE4 ?_
                                        first | exact trivial | exact rfl
                                    · have hfin := fin_st H
                                      repeat refine mf1_LiftE4 ?_
                                      first | exact trivial | exact rfl

/-- placard/placardref07.base -/
noncomputable def g29 (a0 : (Int × ByteArray × Int × Bool × Bool × Bool)) : Option (ByteArray) :=
  jn (α := _) (β := Bool) (fun k423 =>
      if 1 ≤ a0.1 then
        k423 (decide (a0.1 < ((17 : Nat) : Int)))
      else
        k423 false
  ) (fun v422 =>
    if v422 = true then
      (
        ck (0 ≤ a0.1 ∧ a0.1 < ((17 : Nat) : Int)) <|
        some (([(lit []), (lit [116, 101, 120, 116]), (lit [101, 110, 116, 101, 114]), (lit [116, 97, 98]), (lit [98, 97, 99, 107, 116, 97, 98]), (lit [101, 115, 99, 97, 112, 101]), (lit [98, 97, 99, 107, 115, 112, 97, 99, 101]), (lit [100, 101, 108, 101, 116, 101]), (lit [117, 112]), (lit [100, 111, 119, 110]), (lit [108, 101, 102, 116]), (lit [114, 105, 103, 104, 116]), (lit [104, 111, 109, 101]), (lit [101, 110, 100]), (lit [112, 97, 103, 101, 117, 112]), (lit [112, 97, 103, 101, 100, 111, 119, 110]), (lit [112, 97, 115, 116, 101])]).getD a0.1.toNat default)
      )
    else
      (
        if a0.1 = 17 then
          (
            ck ((lit [99, 116, 114, 108, 45]).size + a0.2.1.size ≤ 9223372036854775807) <|
            some ((lit [99, 116, 114, 108, 45]) ++ a0.2.1)
          )
        else
          (
            jn (α := _) (β := Bool) (fun k432 =>
                if a0.1 = 18 then
                  (
                    if 10 ≤ a0.2.2.1 then
                      k432 (decide (a0.2.2.1 ≤ 12))
                    else
                      k432 false
                  )
                else
                  k432 false
            ) (fun v431 =>
              if v431 = true then
                (
                  ck (inR .i64 (48 + a0.2.2.1)) <|
                  ck (inR .i64 ((48 + a0.2.2.1) - 10)) <|
                  ck (isBytes ([IntKind.wrap .u8 ((48 + a0.2.2.1) - 10)])) <|
                  ck ((lit [102, 49]).size + (strOf ([IntKind.wrap .u8 ((48 + a0.2.2.1) - 10)])).size ≤ 9223372036854775807) <|
                  some ((lit [102, 49]) ++ (strOf ([IntKind.wrap .u8 ((48 + a0.2.2.1) - 10)])))
                )
              else
                (
                  jn (α := _) (β := Bool) (fun k443 =>
                      if a0.1 = 18 then
                        (
                          if 1 ≤ a0.2.2.1 then
                            k443 (decide (a0.2.2.1 ≤ 9))
                          else
                            k443 false
                        )
                      else
                        k443 false
                  ) (fun v442 =>
                    if v442 = true then
                      (
                        ck (inR .i64 (48 + a0.2.2.1)) <|
                        ck (isBytes ([IntKind.wrap .u8 (48 + a0.2.2.1)])) <|
                        ck ((lit [102]).size + (strOf ([IntKind.wrap .u8 (48 + a0.2.2.1)])).size ≤ 9223372036854775807) <|
                        some ((lit [102]) ++ (strOf ([IntKind.wrap .u8 (48 + a0.2.2.1)])))
                      )
                    else
                      some (lit [])
                  )
                )
            )
          )
      )
  )
noncomputable def k29 : Eng.CS := { f := 29, calm := true, more := 0, ι := (Int × ByteArray × Int × Bool × Bool × Bool) × ByteArray, ok := fun i => g29 i.1 = some i.2, rds := fun _ => [], args := fun i => [.w (.agg [.v (.int .i64 (i.1.1)), .v (.string (i.1.2.1)), .v (.int .i64 (i.1.2.2.1)), bS i.1.2.2.2.1, bS i.1.2.2.2.2.1, bS i.1.2.2.2.2.2])], res := fun i => .v (.string (i.2)) }
set_option maxRecDepth 60000 in
set_option maxHeartbeats 4000000 in
theorem k29_ok : CalmOk Tryd.prog k29 := by
  refine R.calmspec Tryd.func29 nm29 rfl ?_
  rintro ⟨a0, r⟩ hok q _ args hargs
  match args, hargs with
  | [_], hargs =>
  obtain ⟨rfl, _⟩ := hargs
  refine ⟨envC [] false [(29, 3), (29, 7), (29, 9)], 6, envC_ok (css_nil), rfl, (by intro x hx; simp only [List.mem_cons, List.not_mem_nil, or_false] at hx; rcases hx with rfl <;> rfl), ?_⟩
  have H : Gives (g29 a0) (fun a => a = r) := ⟨r, hok, rfl⟩
  unfold g29 at H
  clear hok
  refine R.cut_fam H 16 [1, 3] [] (fun v422 => [(5, bS v422)]) (fun v422 => []) [(0, .cells 51 [.v (.int .i64 (a0.1)), .v (.string (a0.2.1)), .v (.int .i64 (a0.2.2.1)), bS a0.2.2.2.1, bS a0.2.2.2.2.1, bS a0.2.2.2.2.2]), (2, .arr 9 1 (17) (es ([(lit []), (lit [116, 101, 120, 116]), (lit [101, 110, 116, 101, 114]), (lit [116, 97, 98]), (lit [98, 97, 99, 107, 116, 97, 98]), (lit [101, 115, 99, 97, 112, 101]), (lit [98, 97, 99, 107, 115, 112, 97, 99, 101]), (lit [100, 101, 108, 101, 116, 101]), (lit [117, 112]), (lit [100, 111, 119, 110]), (lit [108, 101, 102, 116]), (lit [114, 105, 103, 104, 116]), (lit [104, 111, 109, 101]), (lit [101, 110, 100]), (lit [112, 97, 103, 101, 117, 112]), (lit [112, 97, 103, 101, 100, 111, 119, 110]), (lit [112, 97, 115, 116, 101])])))] 0 (fun H => ?_)
  refine And.intro ?_ ?_
  · refine if_st H (fun h424 H => ?_) (fun h424 H => ?_)
    · refine ⟨(decide (a0.1 < ((17 : Nat) : Int))), ⟨H⟩, ⟨rfl⟩, ?_⟩
      repeat refine mo1_LiftE4 ?_
      first | exact trivial | exact rfl
    · refine ⟨false, ⟨H⟩, ⟨rfl⟩, ?_⟩
      repeat refine mo1_LiftE4 ?_
      first | exact trivial | exact rfl
  · intro v422 H
    refine if_st H (fun h425 H => ?_) (fun h425 H => ?_)
    · refine ob_ck H fun h426 H => ?_
      refine ld_str (e := ([(lit []), (lit [116, 101, 120, 116]), (lit [101, 110, 116, 101, 114]), (lit [116, 97, 98]), (lit [98, 97, 99, 107, 116, 97, 98]), (lit [101, 115, 99, 97, 112, 101]), (lit [98, 97, 99, 107, 115, 112, 97, 99, 101]), (lit [100, 101, 108, 101, 116, 101]), (lit [117, 112]), (lit [100, 111, 119, 110]), (lit [108, 101, 102, 116]), (lit [114, 105, 103, 104, 116]), (lit [104, 111, 109, 101]), (lit [101, 110, 100]), (lit [112, 97, 103, 101, 117, 112]), (lit [112, 97, 103, 101, 100, 111, 119, 110]), (lit [112, 97, 115, 116, 101])]).getD a0.1.toNat default) (own_get (ys := es ([(lit []), (lit [116, 101, 120, 116]), (lit [101, 110, 116, 101, 114]), (lit [116, 97, 98]), (lit [98, 97, 99, 107, 116, 97, 98]), (lit [101, 115, 99, 97, 112, 101]), (lit [98, 97, 99, 107, 115, 112, 97, 99, 101]), (lit [100, 101, 108, 101, 116, 101]), (lit [117, 112]), (lit [100, 111, 119, 110]), (lit [108, 101, 102, 116]), (lit [114, 105, 103, 104, 116]), (lit [104, 111, 109, 101]), (lit [101, 110, 100]), (lit [112, 97, 103, 101, 117, 112]), (lit [112, 97, 103, 101, 100, 111, 119, 110]), (lit [112, 97, 115, 116, 101])])) (by first | rfl | simp [ei, eb, es, ec, c51]) (es_get (l := [(lit []), (lit [116, 101, 120, 116]), (lit [101, 110, 116, 101, 114]), (lit [116, 97, 98]), (lit [98, 97, 99, 107, 116, 97, 98]), (lit [101, 115, 99, 97, 112, 101]), (lit [98, 97, 99, 107, 115, 112, 97, 99, 101]), (lit [100, 101, 108, 101, 116, 101]), (lit [117, 112]), (lit [100, 111, 119, 110]), (lit [108, 101, 102, 116]), (lit [114, 105, 103, 104, 116]), (lit [104, 111, 109, 101]), (lit [101, 110, 100]), (lit [112, 97, 103, 101, 117, 112]), (lit [112, 97, 103, 101, 100, 111, 119, 110]), (lit [112, 97, 115, 116, 101])]) (by first | exact tn h426 | (have := tn h426; simp at this ⊢; omega) | (have := tn h426; simp; omega)))) ?_
      have hfin := fin_st H
      repeat refine mf1_LiftE4 ?_
      first | exact trivial | exact rfl
    · refine if_st H (fun h427 H => ?_) (fun h427 H => ?_)
      · refine ob_ck H fun h428 H => ?_
        have hfin := fin_st H
        repeat refine mf1_LiftE4 ?_
        first | exact trivial | exact rfl
      · refine R.cut_fam H 35 [1] [] (fun v431 => [(28, bS v431)]) (fun v431 => []) [(0, .cells 51 [.v (.int .i64 (a0.1)), .v (.string (a0.2.1)), .v (.int .i64 (a0.2.2.1)), bS a0.2.2.2.1, bS a0.2.2.2.2.1, bS a0.2.2.2.2.2]), (2, .arr 9 1 (17) (es ([(lit []), (lit [116, 101, 120, 116]), (lit [101, 110, 116, 101, 114]), (lit [116, 97, 98]), (lit [98, 97, 99, 107, 116, 97, 98]), (lit [101, 115, 99, 97, 112, 101]), (lit [98, 97, 99, 107, 115, 112, 97, 99, 101]), (lit [100, 101, 108, 101, 116, 101]), (lit [117, 112]), (lit [100, 111, 119, 110]), (lit [108, 101, 102, 116]), (lit [114, 105, 103, 104, 116]), (lit [104, 111, 109, 101]), (lit [101, 110, 100]), (lit [112, 97, 103, 101, 117, 112]), (lit [112, 97, 103, 101, 100, 111, 119, 110]), (lit [112, 97, 115, 116, 101])])))] 0 (fun H => ?_)
        refine And.intro ?_ ?_
        · refine if_st H (fun h433 H => ?_) (fun h433 H => ?_)
          · refine if_st H (fun h434 H => ?_) (fun h434 H => ?_)
            · refine ⟨(decide (a0.2.2.1 ≤ 12)), ⟨H⟩, ⟨rfl⟩, ?_⟩
              repeat refine mo1_LiftE4 ?_
              first | exact trivial | exact rfl
            · refine ⟨false, ⟨H⟩, ⟨rfl⟩, ?_⟩
              repeat refine mo1_LiftE4 ?_
              first | exact trivial | exact rfl
          · refine ⟨false, ⟨H⟩, ⟨rfl⟩, ?_⟩
            repeat refine mo1_LiftE4 ?_
            first | exact trivial | exact rfl
        · intro v431 H
          refine if_st H (fun h435 H => ?_) (fun h435 H => ?_)
          · refine ob_ck H fun h436 H => ?_
            refine ob_ck H fun h437 H => ?_
            refine ob_str (l := [IntKind.wrap .u8 ((48 + a0.2.2.1) - 10)]) H fun h438 H => ?_
            refine ob_ck H fun h439 H => ?_
            have hfin := fin_st H
            repeat refine mf1_LiftE4 ?_
            first | exact trivial | exact rfl
          · refine R.cut_fam H 50 [1] [] (fun v442 => [(50, bS v442)]) (fun v442 => []) [(0, .cells 51 [.v (.int .i64 (a0.1)), .v (.string (a0.2.1)), .v (.int .i64 (a0.2.2.1)), bS a0.2.2.2.1, bS a0.2.2.2.2.1, bS a0.2.2.2.2.2]), (2, .arr 9 1 (17) (es ([(lit []), (lit [116, 101, 120, 116]), (lit [101, 110, 116, 101, 114]), (lit [116, 97, 98]), (lit [98, 97, 99, 107, 116, 97, 98]), (lit [101, 115, 99, 97, 112, 101]), (lit [98, 97, 99, 107, 115, 112, 97, 99, 101]), (lit [100, 101, 108, 101, 116, 101]), (lit [117, 112]), (lit [100, 111, 119, 110]), (lit [108, 101, 102, 116]), (lit [114, 105, 103, 104, 116]), (lit [104, 111, 109, 101]), (lit [101, 110, 100]), (lit [112, 97, 103, 101, 117, 112]), (lit [112, 97, 103, 101, 100, 111, 119, 110]), (lit [112, 97, 115, 116, 101])])))] 0 (fun H => ?_)
            refine And.intro ?_ ?_
            · refine if_st H (fun h444 H => ?_) (fun h444 H => ?_)
              · refine if_st H (fun h445 H => ?_) (fun h445 H => ?_)
                · refine ⟨(decide (a0.2.2.1 ≤ 9)), ⟨H⟩, ⟨rfl⟩, ?_⟩
                  repeat refine mo1_LiftE4 ?_
                  first | exact trivial | exact rfl
                · refine ⟨false, ⟨H⟩, ⟨rfl⟩, ?_⟩
                  repeat refine mo1_LiftE4 ?_
                  first | exact trivial | exact rfl
              · refine ⟨false, ⟨H⟩, ⟨rfl⟩, ?_⟩
                repeat refine mo1_LiftE4 ?_
                first | exact trivial | exact rfl
            · intro v442 H
              refine if_st H (fun h446 H => ?_) (fun h446 H => ?_)
              · refine ob_ck H fun h447 H => ?_
                refine ob_str (l := [IntKind.wrap .u8 (48 + a0.2.2.1)]) H fun h448 H => ?_
                refine ob_ck H fun h449 H => ?_
                have hfin := fin_st H
                repeat refine mf1_LiftE4 ?_
                first | exact trivial | exact rfl
              · have hfin := fin_st H
                repeat refine mf1_LiftE4 ?_
                first | exact trivial | exact rfl

/-- placard/placardref07.Name -/
noncomputable def g22 (a0 : (Int × ByteArray × Int × Bool × Bool × Bool)) : Option (ByteArray) :=
  (g29 (a0.1, a0.2.1, a0.2.2.1, a0.2.2.2.1, a0.2.2.2.2.1, a0.2.2.2.2.2)).bind fun v450 =>
  if v450.data.toList = (lit []).data.toList then
    some (lit [])
  else
    (
      if a0.2.2.2.2.1 = true then
        (
          ck ((lit [115, 104, 105, 102, 116, 45]).size + v450.size ≤ 9223372036854775807) <|
          if a0.2.2.2.2.2 = true then
            (
              ck ((lit [99, 116, 108, 45]).size + ((lit [115, 104, 105, 102, 116, 45]) ++ v450).size ≤ 9223372036854775807) <|
              if a0.2.2.2.1 = true then
                (
                  ck ((lit [97, 108, 116, 45]).size + ((lit [99, 116, 108, 45]) ++ ((lit [115, 104, 105, 102, 116, 45]) ++ v450)).size ≤ 9223372036854775807) <|
                  some ((lit [97, 108, 116, 45]) ++ ((lit [99, 116, 108, 45]) ++ ((lit [115, 104, 105, 102, 116, 45]) ++ v450)))
                )
              else
                some ((lit [99, 116, 108, 45]) ++ ((lit [115, 104, 105, 102, 116, 45]) ++ v450))
            )
          else
            (
              if a0.2.2.2.1 = true then
                (
                  ck ((lit [97, 108, 116, 45]).size + ((lit [115, 104, 105, 102, 116, 45]) ++ v450).size ≤ 9223372036854775807) <|
                  some ((lit [97, 108, 116, 45]) ++ ((lit [115, 104, 105, 102, 116, 45]) ++ v450))
                )
              else
                some ((lit [115, 104, 105, 102, 116, 45]) ++ v450)
            )
        )
      else
        (
          if a0.2.2.2.2.2 = true then
            (
              ck ((lit [99, 116, 108, 45]).size + v450.size ≤ 9223372036854775807) <|
              if a0.2.2.2.1 = true then
                (
                  ck ((lit [97, 108, 116, 45]).size + ((lit [99, 116, 108, 45]) ++ v450).size ≤ 9223372036854775807) <|
                  some ((lit [97, 108, 116, 45]) ++ ((lit [99, 116, 108, 45]) ++ v450))
                )
              else
                some ((lit [99, 116, 108, 45]) ++ v450)
            )
          else
            (
              if a0.2.2.2.1 = true then
                (
                  ck ((lit [97, 108, 116, 45]).size + v450.size ≤ 9223372036854775807) <|
                  some ((lit [97, 108, 116, 45]) ++ v450)
                )
              else
                some v450
            )
        )
    )
noncomputable def k22 : Eng.CS := { f := 22, calm := true, more := 0, ι := (Int × ByteArray × Int × Bool × Bool × Bool) × ByteArray, ok := fun i => g22 i.1 = some i.2, rds := fun _ => [], args := fun i => [.w (.agg [.v (.int .i64 (i.1.1)), .v (.string (i.1.2.1)), .v (.int .i64 (i.1.2.2.1)), bS i.1.2.2.2.1, bS i.1.2.2.2.2.1, bS i.1.2.2.2.2.2])], res := fun i => .v (.string (i.2)) }
set_option maxRecDepth 8000 in
set_option maxHeartbeats 4000000 in
theorem k22_ok : CalmOk Tryd.prog k22 := by
  refine R.calmspec Tryd.func22 nm22 rfl ?_
  rintro ⟨a0, r⟩ hok q _ args hargs
  match args, hargs with
  | [_], hargs =>
  obtain ⟨rfl, _⟩ := hargs
  refine ⟨envC [k29] false [], 6, envC_ok (css_cons ⟨fun _ => k29_ok, fun h => (by cases h)⟩ (css_nil)), rfl, (by intro x hx; simp only [List.mem_cons, List.not_mem_nil, or_false] at hx; rcases hx with rfl <;> rfl), ?_⟩
  have H : Gives (g22 a0) (fun a => a = r) := ⟨r, hok, rfl⟩
  unfold g22 at H
  clear hok
  obtain ⟨v450, hv451, H⟩ := call_st H
  refine ⟨((a0.1, a0.2.1, a0.2.2.1, a0.2.2.2.1, a0.2.2.2.2.1, a0.2.2.2.2.2), v450), ⟨hv451⟩, ⟨trivial⟩, ?_⟩
  refine mo1_LiftE4 ?_
  refine mo1_LiftE4 ?_
  refine mo1_LiftE4 ?_
  refine mo1_LiftE4 ?_
  refine mo1_LiftE4 ?_
  refine mo1_LiftE4 ?_
  refine if_st H (fun h453 H => ?_) (fun h453 H => ?_)
  · have hfin := fin_st H
    repeat refine mf1_LiftE4 ?_
    first | exact trivial | exact rfl
  · refine if_st H (fun h456 H => ?_) (fun h456 H => ?_)
    · refine ob_ck H fun h457 H => ?_
      refine if_st H (fun h460 H => ?_) (fun h460 H => ?_)
      · refine ob_ck H fun h461 H => ?_
        refine if_st H (fun h464 H => ?_) (fun h464 H => ?_)
        · refine ob_ck H fun h465 H => ?_
          have hfin := fin_st H
          repeat refine mf1_LiftE4 ?_
          first | exact trivial | exact rfl
        · have hfin := fin_st H
          repeat refine mf1_LiftE4 ?_
          first | exact trivial | exact rfl
      · refine if_st H (fun h466 H => ?_) (fun h466 H => ?_)
        · refine ob_ck H fun h467 H => ?_
          have hfin := fin_st H
          repeat refine mf1_LiftE4 ?_
          first | exact trivial | exact rfl
        · have hfin := fin_st H
          repeat refine mf1_LiftE4 ?_
          first | exact trivial | exact rfl
    · refine if_st H (fun h468 H => ?_) (fun h468 H => ?_)
      · refine ob_ck H fun h469 H => ?_
        refine if_st H (fun h470 H => ?_) (fun h470 H => ?_)
        · refine ob_ck H fun h471 H => ?_
          have hfin := fin_st H
          repeat refine mf1_LiftE4 ?_
          first | exact trivial | exact rfl
        · have hfin := fin_st H
          repeat refine mf1_LiftE4 ?_
          first | exact trivial | exact rfl
      · refine if_st H (fun h472 H => ?_) (fun h472 H => ?_)
        · refine ob_ck H fun h473 H => ?_
          have hfin := fin_st H
          repeat refine mf1_LiftE4 ?_
          first | exact trivial | exact rfl
        · have hfin := fin_st H
          repeat refine mf1_LiftE4 ?_
          first | exact trivial | exact rfl

/-- placard/keyin.Name -/
noncomputable def g21 (a0 : (Int × ByteArray × Int × Bool × Bool × Bool)) : Option (ByteArray) :=
  (g28 (a0.1, a0.2.1, a0.2.2.1, a0.2.2.2.1, a0.2.2.2.2.1, a0.2.2.2.2.2)).bind fun v474 =>
  if v474.data.toList = (lit []).data.toList then
    some (lit [])
  else
    (
      if a0.2.2.2.2.1 = true then
        (
          ck ((lit [115, 104, 105, 102, 116, 45]).size + v474.size ≤ 9223372036854775807) <|
          if a0.2.2.2.2.2 = true then
            (
              ck ((lit [99, 116, 108, 45]).size + ((lit [115, 104, 105, 102, 116, 45]) ++ v474).size ≤ 9223372036854775807) <|
              if a0.2.2.2.1 = true then
                (
                  ck ((lit [97, 108, 116, 45]).size + ((lit [99, 116, 108, 45]) ++ ((lit [115, 104, 105, 102, 116, 45]) ++ v474)).size ≤ 9223372036854775807) <|
                  some ((lit [97, 108, 116, 45]) ++ ((lit [99, 116, 108, 45]) ++ ((lit [115, 104, 105, 102, 116, 45]) ++ v474)))
                )
              else
                some ((lit [99, 116, 108, 45]) ++ ((lit [115, 104, 105, 102, 116, 45]) ++ v474))
            )
          else
            (
              if a0.2.2.2.1 = true then
                (
                  ck ((lit [97, 108, 116, 45]).size + ((lit [115, 104, 105, 102, 116, 45]) ++ v474).size ≤ 9223372036854775807) <|
                  some ((lit [97, 108, 116, 45]) ++ ((lit [115, 104, 105, 102, 116, 45]) ++ v474))
                )
              else
                some ((lit [115, 104, 105, 102, 116, 45]) ++ v474)
            )
        )
      else
        (
          if a0.2.2.2.2.2 = true then
            (
              ck ((lit [99, 116, 108, 45]).size + v474.size ≤ 9223372036854775807) <|
              if a0.2.2.2.1 = true then
                (
                  ck ((lit [97, 108, 116, 45]).size + ((lit [99, 116, 108, 45]) ++ v474).size ≤ 9223372036854775807) <|
                  some ((lit [97, 108, 116, 45]) ++ ((lit [99, 116, 108, 45]) ++ v474))
                )
              else
                some ((lit [99, 116, 108, 45]) ++ v474)
            )
          else
            (
              if a0.2.2.2.1 = true then
                (
                  ck ((lit [97, 108, 116, 45]).size + v474.size ≤ 9223372036854775807) <|
                  some ((lit [97, 108, 116, 45]) ++ v474)
                )
              else
                some v474
            )
        )
    )
noncomputable def k21 : Eng.CS := { f := 21, calm := true, more := 0, ι := (Int × ByteArray × Int × Bool × Bool × Bool) × ByteArray, ok := fun i => g21 i.1 = some i.2, rds := fun _ => [], args := fun i => [.w (.agg [.v (.int .i64 (i.1.1)), .v (.string (i.1.2.1)), .v (.int .i64 (i.1.2.2.1)), bS i.1.2.2.2.1, bS i.1.2.2.2.2.1, bS i.1.2.2.2.2.2])], res := fun i => .v (.string (i.2)) }
set_option maxRecDepth 8000 in
set_option maxHeartbeats 4000000 in
theorem k21_ok : CalmOk Tryd.prog k21 := by
  refine R.calmspec Tryd.func21 nm21 rfl ?_
  rintro ⟨a0, r⟩ hok q _ args hargs
  match args, hargs with
  | [_], hargs =>
  obtain ⟨rfl, _⟩ := hargs
  refine ⟨envC [k28] false [], 6, envC_ok (css_cons ⟨fun _ => k28_ok, fun h => (by cases h)⟩ (css_nil)), rfl, (by intro x hx; simp only [List.mem_cons, List.not_mem_nil, or_false] at hx; rcases hx with rfl <;> rfl), ?_⟩
  have H : Gives (g21 a0) (fun a => a = r) := ⟨r, hok, rfl⟩
  unfold g21 at H
  clear hok
  obtain ⟨v474, hv475, H⟩ := call_st H
  refine ⟨((a0.1, a0.2.1, a0.2.2.1, a0.2.2.2.1, a0.2.2.2.2.1, a0.2.2.2.2.2), v474), ⟨hv475⟩, ⟨trivial⟩, ?_⟩
  refine mo1_LiftE4 ?_
  refine mo1_LiftE4 ?_
  refine mo1_LiftE4 ?_
  refine mo1_LiftE4 ?_
  refine mo1_LiftE4 ?_
  refine mo1_LiftE4 ?_
  refine if_st H (fun h477 H => ?_) (fun h477 H => ?_)
  · have hfin := fin_st H
    repeat refine mf1_LiftE4 ?_
    first | exact trivial | exact rfl
  · refine if_st H (fun h480 H => ?_) (fun h480 H => ?_)
    · refine ob_ck H fun h481 H => ?_
      refine if_st H (fun h484 H => ?_) (fun h484 H => ?_)
      · refine ob_ck H fun h485 H => ?_
        refine if_st H (fun h488 H => ?_) (fun h488 H => ?_)
        · refine ob_ck H fun h489 H => ?_
          have hfin := fin_st H
          repeat refine mf1_LiftE4 ?_
          first | exact trivial | exact rfl
        · have hfin := fin_st H
          repeat refine mf1_LiftE4 ?_
          first | exact trivial | exact rfl
      · refine if_st H (fun h490 H => ?_) (fun h490 H => ?_)
        · refine ob_ck H fun h491 H => ?_
          have hfin := fin_st H
          repeat refine mf1_LiftE4 ?_
          first | exact trivial | exact rfl
        · have hfin := fin_st H
          repeat refine mf1_LiftE4 ?_
          first | exact trivial | exact rfl
    · refine if_st H (fun h492 H => ?_) (fun h492 H => ?_)
      · refine ob_ck H fun h493 H => ?_
        refine if_st H (fun h494 H => ?_) (fun h494 H => ?_)
        · refine ob_ck H fun h495 H => ?_
          have hfin := fin_st H
          repeat refine mf1_LiftE4 ?_
          first | exact trivial | exact rfl
        · have hfin := fin_st H
          repeat refine mf1_LiftE4 ?_
          first | exact trivial | exact rfl
      · refine if_st H (fun h496 H => ?_) (fun h496 H => ?_)
        · refine ob_ck H fun h497 H => ?_
          have hfin := fin_st H
          repeat refine mf1_LiftE4 ?_
          first | exact trivial | exact rfl
        · have hfin := fin_st H
          repeat refine mf1_LiftE4 ?_
          first | exact trivial | exact rfl

/-- (*placard/keyin.Decoder).Waits -/
noncomputable def g11 (a0 : (List Int × Bool × List Int × Int × Bool)) : Option (Int) :=
  if ¬ (a0.2.2.2.2 = true) then
    some 0
  else
    (
      if a0.2.1 = true then
        (
          ck (inR .i64 (((a0.2.2.1.length : Nat) : Int) + a0.2.2.2.1)) <|
          some (gmin (((a0.2.2.1.length : Nat) : Int) + a0.2.2.2.1) 65541)
        )
      else
        some ((a0.1.length : Nat) : Int)
    )
noncomputable def k11 : Eng.CS := { f := 11, calm := true, more := 0, ι := (List Int × Bool × List Int × Int × Bool) × Int, ok := fun i => g11 i.1 = some i.2, rds := fun _ => [], args := fun i => [.pt [.row 1 i.1.1.length (ei .u8 i.1.1), .w (.bool i.1.2.1), .row 1 i.1.2.2.1.length (ei .u8 i.1.2.2.1), .w (.int .i64 i.1.2.2.2.1), .w (.bool i.1.2.2.2.2)]], res := fun i => .v (.int .i64 (i.2)) }
set_option maxRecDepth 8000 in
set_option maxHeartbeats 4000000 in
theorem k11_ok : CalmOk Tryd.prog k11 := by
  refine R.calmspec Tryd.func11 nm11 rfl ?_
  rintro ⟨a0, r⟩ hok q _ args hargs
  dsimp only [k11] at hargs ⊢
  match args, hargs with
  | [_], hargs =>
  obtain ⟨⟨P0, us0, rfl, hs0, _, hR0, hpc0⟩, _⟩ := hargs
  match us0, hR0, hpc0 with
  | [_, _, _, _, _], hR0, hpc0 =>
  obtain ⟨⟨A0_0, c0_0, rfl, hcr0_0, _, hRr0_0⟩, rfl, ⟨A0_2, c0_2, rfl, hcr0_2, _, hRr0_2⟩, rfl, rfl, _⟩ := hpc0
  refine ⟨envC [] false [], 6, envC_ok (css_nil), rfl, (by intro x hx; simp only [List.mem_cons, List.not_mem_nil, or_false] at hx; rcases hx with rfl <;> rfl), ?_⟩
  have H : Gives (g11 a0) (fun a => a = r) := ⟨r, hok, rfl⟩
  unfold g11 at H
  clear hok
  refine ob_nc ?_
  refine ld_bool (e := a0.2.2.2.2) (rd_get hR0 rfl) ?_
  refine if_st H (fun h499 H => ?_) (fun h499 H => ?_)
  · have hfin := fin_st H
    repeat refine mf1_LiftE4 ?_
    first | exact trivial | exact rfl
  · refine ob_nc ?_
    refine ld_bool (e := a0.2.1) (rd_get hR0 rfl) ?_
    refine if_st H (fun h502 H => ?_) (fun h502 H => ?_)
    · refine And.intro ⟨by kernel_rfl⟩ ?_
      refine ob_nc ?_
      refine ld_sl (A := A0_2) (n := a0.2.2.1.length) (c := c0_2) (rd_get hR0 rfl) ?_
      refine ob_nc ?_
      refine ld_int (e := a0.2.2.2.1) (rd_get hR0 rfl) ?_
      refine ob_ck H fun h503 H => ?_
      have hfin := fin_st H
      repeat refine mf1_LiftE4 ?_
      first | exact trivial | exact rfl
    · refine ob_nc ?_
      refine ld_sl (A := A0_0) (n := a0.1.length) (c := c0_0) (rd_get hR0 rfl) ?_
      have hfin := fin_st H
      repeat refine mf1_LiftE4 ?_
      first | exact trivial | exact rfl

/-- (*placard/keyin.Decoder).Pasting -/
noncomputable def g20 (a0 : (List Int × Bool × List Int × Int × Bool)) : Option (Bool) :=
  if a0.2.2.2.2 = true then
    some a0.2.1
  else
    some false
noncomputable def k20 : Eng.CS := { f := 20, calm := true, more := 0, ι := (List Int × Bool × List Int × Int × Bool) × Bool, ok := fun i => g20 i.1 = some i.2, rds := fun _ => [], args := fun i => [.pt [.row 1 i.1.1.length (ei .u8 i.1.1), .w (.bool i.1.2.1), .row 1 i.1.2.2.1.length (ei .u8 i.1.2.2.1), .w (.int .i64 i.1.2.2.2.1), .w (.bool i.1.2.2.2.2)]], res := fun i => bS i.2 }
set_option maxRecDepth 8000 in
set_option maxHeartbeats 4000000 in
theorem k20_ok : CalmOk Tryd.prog k20 := by
  refine R.calmspec Tryd.func20 nm20 rfl ?_
  rintro ⟨a0, r⟩ hok q _ args hargs
  dsimp only [k20] at hargs ⊢
  match args, hargs with
  | [_], hargs =>
  obtain ⟨⟨P0, us0, rfl, hs0, _, hR0, hpc0⟩, _⟩ := hargs
  match us0, hR0, hpc0 with
  | [_, _, _, _, _], hR0, hpc0 =>
  obtain ⟨⟨A0_0, c0_0, rfl, hcr0_0, _, hRr0_0⟩, rfl, ⟨A0_2, c0_2, rfl, hcr0_2, _, hRr0_2⟩, rfl, rfl, _⟩ := hpc0
  refine ⟨envC [] false [], 6, envC_ok (css_nil), rfl, (by intro x hx; simp only [List.mem_cons, List.not_mem_nil, or_false] at hx; rcases hx with rfl <;> rfl), ?_⟩
  have H : Gives (g20 a0) (fun a => a = r) := ⟨r, hok, rfl⟩
  unfold g20 at H
  clear hok
  refine ob_nc ?_
  refine ld_bool (e := a0.2.2.2.2) (rd_get hR0 rfl) ?_
  refine if_st H (fun h504 H => ?_) (fun h504 H => ?_)
  · refine ob_nc ?_
    refine ld_bool (e := a0.2.1) (rd_get hR0 rfl) ?_
    have hfin := fin_st H
    repeat refine mf1_LiftE4 ?_
    first | exact trivial | exact rfl
  · have hfin := fin_st H
    repeat refine mf1_LiftE4 ?_
    first | exact trivial | exact rfl

end Go.Proofs.YtenjkphlbdhaiaaDoor
