/-
  Functions of the program, lifted: each with its walk. Printed by lift.py.
  Nothing here is trusted.
-/
import Derived.Test.YtenjkphlbdhaiaaDoorLiftD2
set_option linter.unusedVariables false
set_option linter.unusedSimpArgs false
namespace Go.Proofs.YtenjkphlbdhaiaaDoor
open Go Go.Eng

theorem mo1_LiftD3 {p q : Prop} (k : q) (h : p := by first | exact rfl | exact Iff.rfl | exact ⟨rfl, rfl⟩ | exact decide_eq_true_iff | (constructor <;> first | exact rfl | (simp only [ei, eb, es, ec, gmin, gmax, List.map_append, List.flatMap_append, List.nil_append, List.append_nil, List.append_assoc]; done) | omega | (simp only [List.nil_append, List.length_append, List.length_cons, List.length_nil]; omega) | (simp [ei, eb, es, ec, gmin, gmax]; done)) | exact rfl | (simp only [ei, eb, es, ec, gmin, gmax, List.map_append, List.flatMap_append, List.nil_append, List.append_nil, List.append_assoc]; done) | omega | (simp only [List.nil_append, List.length_append, List.length_cons, List.length_nil]; omega) | (simp [ei, eb, es, ec, gmin, gmax]; done) | simp [ei, eb, es, ec, gmin, gmax]) : Ob p ∧ q := ⟨⟨h⟩, k⟩
theorem mf1_LiftD3 {p q : Prop} (k : q) (h : p := by first | (rw [← hfin] <;> first | exact rfl | exact Iff.rfl | exact ⟨rfl, rfl⟩ | exact decide_eq_true_iff | (constructor <;> first | exact rfl | (simp only [ei, eb, es, ec, gmin, gmax, List.map_append, List.flatMap_append, List.nil_append, List.append_nil, List.append_assoc]; done) | omega | (simp only [List.nil_append, List.length_append, List.length_cons, List.length_nil]; omega) | (simp [ei, eb, es, ec, gmin, gmax]; done)) | exact rfl | (simp only [ei, eb, es, ec, gmin, gmax, List.map_append, List.flatMap_append, List.nil_append, List.append_nil, List.append_assoc]; done) | omega | (simp only [List.nil_append, List.length_append, List.length_cons, List.length_nil]; omega) | (simp [ei, eb, es, ec, gmin, gmax]; done) | simp [ei, eb, es, ec, gmin, gmax]) | first | exact rfl | exact Iff.rfl | exact ⟨rfl, rfl⟩ | exact decide_eq_true_iff | (constructor <;> first | exact rfl | (simp only [ei, eb, es, ec, gmin, gmax, List.map_append, List.flatMap_append, List.nil_append, List.append_nil, List.append_assoc]; done) | omega | (simp only [List.nil_append, List.length_append, List.length_cons, List.length_nil]; omega) | (simp [ei, eb, es, ec, gmin, gmax]; done)) | exact rfl | (simp only [ei, eb, es, ec, gmin, gmax, List.map_append, List.flatMap_append, List.nil_append, List.append_nil, List.append_assoc]; done) | omega | (simp only [List.nil_append, List.length_append, List.length_cons, List.length_nil]; omega) | (simp [ei, eb, es, ec, gmin, gmax]; done) | simp [ei, eb, es, ec, gmin, gmax]) : Ob p ∧ q := ⟨⟨h⟩, k⟩
/-- placard/placardref07.sign -/
noncomputable def g47 (a0 : Int) : Option (ByteArray) :=
  if 1 ≤ a0 then
    (
      if a0 ≤ 26 then
        (
          ck (inR .u8 (a0 + 96)) <|
          ck (isBytes ([a0 + 96])) <|
          some (strOf ([a0 + 96]))
        )
      else
        (
          ck (inR .u8 (a0 + 64)) <|
          ck (isBytes ([a0 + 64])) <|
          some (strOf ([a0 + 64]))
        )
    )
  else
    (
      ck (inR .u8 (a0 + 64)) <|
      ck (isBytes ([a0 + 64])) <|
      some (strOf ([a0 + 64]))
    )
noncomputable def k47 : Eng.CS := { f := 47, calm := true, more := 0, ι := Int × ByteArray, ok := fun i => g47 i.1 = some i.2, rds := fun _ => [], args := fun i => [.w (.v (.int .u8 (i.1)))], res := fun i => .v (.string (i.2)) }
set_option maxRecDepth 8000 in
set_option maxHeartbeats 4000000 in
theorem k47_ok : CalmOk Tryd.prog k47 := by
  refine R.calmspec Tryd.func47 nm47 rfl ?_
  rintro ⟨a0, r⟩ hok q _ args hargs
  match args, hargs with
  | [_], hargs =>
  obtain ⟨rfl, _⟩ := hargs
  refine ⟨envC [] false [], 6, envC_ok (css_nil), rfl, (by intro x hx; simp only [List.mem_cons, List.not_mem_nil, or_false] at hx; rcases hx with rfl <;> rfl), ?_⟩
  have H : Gives (g47 a0) (fun a => a = r) := ⟨r, hok, rfl⟩
  unfold g47 at H
  clear hok
  refine if_st H (fun h6 H => ?_) (fun h6 H => ?_)
  · refine if_st H (fun h7 H => ?_) (fun h7 H => ?_)
    · refine ob_ck H fun h8 H => ?_
      refine ob_str (l := [a0 + 96]) H fun h9 H => ?_
      have hfin := fin_st H
      repeat refine mf1_LiftD3 ?_
      first | exact trivial | exact rfl
    · refine ob_ck H fun h10 H => ?_
      refine ob_str (l := [a0 + 64]) H fun h11 H => ?_
      have hfin := fin_st H
      repeat refine mf1_LiftD3 ?_
      first | exact trivial | exact rfl
  · refine ob_ck H fun h12 H => ?_
    refine ob_str (l := [a0 + 64]) H fun h13 H => ?_
    have hfin := fin_st H
    repeat refine mf1_LiftD3 ?_
    first | exact trivial | exact rfl

/-- placard/keyin.sign -/
noncomputable def g52 (a0 : Int) : Option (ByteArray) :=
  ck (inR .u8 (a0 + 64)) <|
  if 65 ≤ (a0 + 64) then
    (
      if (a0 + 64) ≤ 90 then
        (
          ck (inR .u8 ((a0 + 64) + 32)) <|
          ck (isBytes ([(a0 + 64) + 32])) <|
          some (strOf ([(a0 + 64) + 32]))
        )
      else
        (
          ck (isBytes ([a0 + 64])) <|
          some (strOf ([a0 + 64]))
        )
    )
  else
    (
      ck (isBytes ([a0 + 64])) <|
      some (strOf ([a0 + 64]))
    )
noncomputable def k52 : Eng.CS := { f := 52, calm := true, more := 0, ι := Int × ByteArray, ok := fun i => g52 i.1 = some i.2, rds := fun _ => [], args := fun i => [.w (.v (.int .u8 (i.1)))], res := fun i => .v (.string (i.2)) }
set_option maxRecDepth 8000 in
set_option maxHeartbeats 4000000 in
theorem k52_ok : CalmOk Tryd.prog k52 := by
  refine R.calmspec Tryd.func52 nm52 rfl ?_
  rintro ⟨a0, r⟩ hok q _ args hargs
  match args, hargs with
  | [_], hargs =>
  obtain ⟨rfl, _⟩ := hargs
  refine ⟨envC [] false [], 6, envC_ok (css_nil), rfl, (by intro x hx; simp only [List.mem_cons, List.not_mem_nil, or_false] at hx; rcases hx with rfl <;> rfl), ?_⟩
  have H : Gives (g52 a0) (fun a => a = r) := ⟨r, hok, rfl⟩
  unfold g52 at H
  clear hok
  refine ob_ck H fun h14 H => ?_
  refine if_st H (fun h19 H => ?_) (fun h19 H => ?_)
  · refine if_st H (fun h20 H => ?_) (fun h20 H => ?_)
    · refine ob_ck H fun h21 H => ?_
      refine ob_str (l := [(a0 + 64) + 32]) H fun h22 H => ?_
      have hfin := fin_st H
      repeat refine mf1_LiftD3 ?_
      first | exact trivial | exact rfl
    · refine ob_str (l := [a0 + 64]) H fun h23 H => ?_
      have hfin := fin_st H
      repeat refine mf1_LiftD3 ?_
      first | exact trivial | exact rfl
  · refine ob_str (l := [a0 + 64]) H fun h24 H => ?_
    have hfin := fin_st H
    repeat refine mf1_LiftD3 ?_
    first | exact trivial | exact rfl

/-- placard/placardref07.letter -/
noncomputable def g37 (a0 : Int) : Option ((Int × ByteArray × Int × Bool × Bool × Bool) × Bool) :=
  if a0 = 65 then
    some ((8, (⟨#[]⟩ : ByteArray), 0, false, false, false), true)
  else
    (
      if a0 = 66 then
        some ((9, (⟨#[]⟩ : ByteArray), 0, false, false, false), true)
      else
        (
          if a0 = 67 then
            some ((11, (⟨#[]⟩ : ByteArray), 0, false, false, false), true)
          else
            (
              if a0 = 68 then
                some ((10, (⟨#[]⟩ : ByteArray), 0, false, false, false), true)
              else
                (
                  if a0 = 72 then
                    some ((12, (⟨#[]⟩ : ByteArray), 0, false, false, false), true)
                  else
                    (
                      if a0 = 70 then
                        some ((13, (⟨#[]⟩ : ByteArray), 0, false, false, false), true)
                      else
                        (
                          jn (α := _) (β := Bool) (fun k56 =>
                              if a0 = 80 then
                                k56 (decide (a0 = 80))
                              else
                                (
                                  if a0 = 81 then
                                    k56 (decide (a0 = 81))
                                  else
                                    (
                                      if a0 = 82 then
                                        k56 (decide (a0 = 82))
                                      else
                                        k56 (decide (a0 = 83))
                                    )
                                )
                          ) (fun v55 =>
                            if v55 = true then
                              (
                                ck (inR .u8 (a0 - 80)) <|
                                ck (inR .i64 (a0 - 80)) <|
                                ck (inR .i64 ((a0 - 80) + 1)) <|
                                some ((18, (⟨#[]⟩ : ByteArray), (a0 - 80) + 1, false, false, false), true)
                              )
                            else
                              some ((0, (⟨#[]⟩ : ByteArray), 0, false, false, false), false)
                          )
                        )
                    )
                )
            )
        )
    )
noncomputable def k37 : Eng.CS := { f := 37, calm := true, more := 0, ι := Int × ((Int × ByteArray × Int × Bool × Bool × Bool) × Bool), ok := fun i => g37 i.1 = some i.2, rds := fun _ => [], args := fun i => [.w (.v (.int .u8 (i.1)))], res := fun i => .tup [.agg [.v (.int .i64 (i.2.1.1)), .v (.string (i.2.1.2.1)), .v (.int .i64 (i.2.1.2.2.1)), bS i.2.1.2.2.2.1, bS i.2.1.2.2.2.2.1, bS i.2.1.2.2.2.2.2], bS i.2.2] }
set_option maxRecDepth 8000 in
set_option maxHeartbeats 4000000 in
theorem k37_ok : CalmOk Tryd.prog k37 := by
  refine R.calmspec Tryd.func37 nm37 rfl ?_
  rintro ⟨a0, r⟩ hok q _ args hargs
  match args, hargs with
  | [_], hargs =>
  obtain ⟨rfl, _⟩ := hargs
  refine ⟨envC [] false [(37, 18)], 6, envC_ok (css_nil), rfl, (by intro x hx; simp only [List.mem_cons, List.not_mem_nil, or_false] at hx; rcases hx with rfl <;> rfl), ?_⟩
  have H : Gives (g37 a0) (fun a => a = r) := ⟨r, hok, rfl⟩
  unfold g37 at H
  clear hok
  refine if_st H (fun h46 H => ?_) (fun h46 H => ?_)
  · have hfin := fin_st H
    repeat refine mf1_LiftD3 ?_
    first | exact trivial | exact rfl
  · refine if_st H (fun h47 H => ?_) (fun h47 H => ?_)
    · have hfin := fin_st H
      repeat refine mf1_LiftD3 ?_
      first | exact trivial | exact rfl
    · refine if_st H (fun h48 H => ?_) (fun h48 H => ?_)
      · have hfin := fin_st H
        repeat refine mf1_LiftD3 ?_
        first | exact trivial | exact rfl
      · refine if_st H (fun h49 H => ?_) (fun h49 H => ?_)
        · have hfin := fin_st H
          repeat refine mf1_LiftD3 ?_
          first | exact trivial | exact rfl
        · refine if_st H (fun h50 H => ?_) (fun h50 H => ?_)
          · have hfin := fin_st H
            repeat refine mf1_LiftD3 ?_
            first | exact trivial | exact rfl
          · refine if_st H (fun h51 H => ?_) (fun h51 H => ?_)
            · have hfin := fin_st H
              repeat refine mf1_LiftD3 ?_
              first | exact trivial | exact rfl
            · refine R.cut_fam H 24 [0, 2] [] (fun v55 => [(23, bS v55)]) (fun v55 => []) [(0, .cells 51 [.v (.int .i64 (0)), .v (.string ((⟨#[]⟩ : ByteArray))), .v (.int .i64 (0)), .bb false, .bb false, .bb false])] 0 (fun H => ?_)
              refine And.intro ?_ ?_
              · refine if_st H (fun h57 H => ?_) (fun h57 H => ?_)
                · refine ⟨(decide (a0 = 80)), ⟨H⟩, ⟨rfl⟩, ?_⟩
                  repeat refine mo1_LiftD3 ?_
                  first | exact trivial | exact rfl
                · refine if_st H (fun h58 H => ?_) (fun h58 H => ?_)
                  · refine ⟨(decide (a0 = 81)), ⟨H⟩, ⟨rfl⟩, ?_⟩
                    repeat refine mo1_LiftD3 ?_
                    first | exact trivial | exact rfl
                  · refine if_st H (fun h59 H => ?_) (fun h59 H => ?_)
                    · refine ⟨(decide (a0 = 82)), ⟨H⟩, ⟨rfl⟩, ?_⟩
                      repeat refine mo1_LiftD3 ?_
                      first | exact trivial | exact rfl
                    · refine ⟨(decide (a0 = 83)), ⟨H⟩, ⟨rfl⟩, ?_⟩
                      repeat refine mo1_LiftD3 ?_
                      first | exact trivial | exact rfl
              · intro v55 H
                refine if_st H (fun h60 H => ?_) (fun h60 H => ?_)
                · refine ob_ck H fun h61 H => ?_
                  refine ob_ck H fun h62 H => ?_
                  refine ob_ck H fun h63 H => ?_
                  have hfin := fin_st H
                  repeat refine mf1_LiftD3 ?_
                  first | exact trivial | exact rfl
                · have hfin := fin_st H
                  repeat refine mf1_LiftD3 ?_
                  first | exact trivial | exact rfl

/-- placard/keyin.letter -/
noncomputable def g55 (a0 : Int) : Option ((Int × ByteArray × Int × Bool × Bool × Bool) × Bool) :=
  jn (α := _) (β := Int) (fun k385 =>
      if a0 = 83 then
        (
          ck (inR .i64 (0 + 1)) <|
          ck (inR .i64 ((0 + 1) + 1)) <|
          ck (inR .i64 (((0 + 1) + 1) + 1)) <|
          k385 (((0 + 1) + 1) + 1)
        )
      else
        (
          if a0 = 82 then
            (
              ck (inR .i64 (0 + 1)) <|
              ck (inR .i64 ((0 + 1) + 1)) <|
              k385 ((0 + 1) + 1)
            )
          else
            (
              if a0 = 81 then
                (
                  ck (inR .i64 (0 + 1)) <|
                  k385 (0 + 1)
                )
              else
                (
                  if a0 = 80 then
                    k385 0
                  else
                    (
                      if a0 = 65 then
                        some ((8, (⟨#[]⟩ : ByteArray), 0, false, false, false), true)
                      else
                        (
                          if a0 = 66 then
                            some ((9, (⟨#[]⟩ : ByteArray), 0, false, false, false), true)
                          else
                            (
                              if a0 = 67 then
                                some ((11, (⟨#[]⟩ : ByteArray), 0, false, false, false), true)
                              else
                                (
                                  if a0 = 68 then
                                    some ((10, (⟨#[]⟩ : ByteArray), 0, false, false, false), true)
                                  else
                                    (
                                      if a0 = 72 then
                                        some ((12, (⟨#[]⟩ : ByteArray), 0, false, false, false), true)
                                      else
                                        (
                                          if a0 = 70 then
                                            some ((13, (⟨#[]⟩ : ByteArray), 0, false, false, false), true)
                                          else
                                            some ((0, (⟨#[]⟩ : ByteArray), 0, false, false, false), false)
                                        )
                                    )
                                )
                            )
                        )
                    )
                )
            )
        )
  ) (fun v384 =>
    ck (inR .i64 (v384 + 1)) <|
    some ((18, (⟨#[]⟩ : ByteArray), v384 + 1, false, false, false), true)
  )
noncomputable def k55 : Eng.CS := { f := 55, calm := true, more := 0, ι := Int × ((Int × ByteArray × Int × Bool × Bool × Bool) × Bool), ok := fun i => g55 i.1 = some i.2, rds := fun _ => [], args := fun i => [.w (.v (.int .u8 (i.1)))], res := fun i => .tup [.agg [.v (.int .i64 (i.2.1.1)), .v (.string (i.2.1.2.1)), .v (.int .i64 (i.2.1.2.2.1)), bS i.2.1.2.2.2.1, bS i.2.1.2.2.2.2.1, bS i.2.1.2.2.2.2.2], bS i.2.2] }
set_option maxRecDepth 8000 in
set_option maxHeartbeats 4000000 in
theorem k55_ok : CalmOk Tryd.prog k55 := by
  refine R.calmspec Tryd.func55 nm55 rfl ?_
  rintro ⟨a0, r⟩ hok q _ args hargs
  match args, hargs with
  | [_], hargs =>
  obtain ⟨rfl, _⟩ := hargs
  refine ⟨envC [] false [(55, 16)], 6, envC_ok (css_nil), rfl, (by intro x hx; simp only [List.mem_cons, List.not_mem_nil, or_false] at hx; rcases hx with rfl <;> rfl), ?_⟩
  have H : Gives (g55 a0) (fun a => a = r) := ⟨r, hok, rfl⟩
  unfold g55 at H
  clear hok
  refine R.cut_fam H 16 [2] [] (fun v384 => [(4, .v (.int .i64 (v384)))]) (fun v384 => []) [(0, .cells 51 [.v (.int .i64 (0)), .v (.string ((⟨#[]⟩ : ByteArray))), .v (.int .i64 (0)), .bb false, .bb false, .bb false])] 0 (fun H => ?_)
  refine And.intro ?_ ?_
  · refine if_st H (fun h386 H => ?_) (fun h386 H => ?_)
    · refine ob_ck H fun h387 H => ?_
      refine ob_ck H fun h388 H => ?_
      refine ob_ck H fun h389 H => ?_
      refine ⟨((0 + 1) + 1) + 1, ⟨H⟩, ⟨rfl⟩, ?_⟩
      repeat refine mo1_LiftD3 ?_
      first | exact trivial | exact rfl
    · refine if_st H (fun h390 H => ?_) (fun h390 H => ?_)
      · refine ob_ck H fun h391 H => ?_
        refine ob_ck H fun h392 H => ?_
        refine ⟨(0 + 1) + 1, ⟨H⟩, ⟨rfl⟩, ?_⟩
        repeat refine mo1_LiftD3 ?_
        first | exact trivial | exact rfl
      · refine if_st H (fun h393 H => ?_) (fun h393 H => ?_)
        · refine ob_ck H fun h394 H => ?_
          refine ⟨0 + 1, ⟨H⟩, ⟨rfl⟩, ?_⟩
          repeat refine mo1_LiftD3 ?_
          first | exact trivial | exact rfl
        · refine if_st H (fun h395 H => ?_) (fun h395 H => ?_)
          · refine ⟨0, ⟨H⟩, ⟨rfl⟩, ?_⟩
            repeat refine mo1_LiftD3 ?_
            first | exact trivial | exact rfl
          · refine if_st H (fun h396 H => ?_) (fun h396 H => ?_)
            · have hfin := fin_st H
              repeat refine mf1_LiftD3 ?_
              first | exact trivial | exact rfl
            · refine if_st H (fun h397 H => ?_) (fun h397 H => ?_)
              · have hfin := fin_st H
                repeat refine mf1_LiftD3 ?_
                first | exact trivial | exact rfl
              · refine if_st H (fun h398 H => ?_) (fun h398 H => ?_)
                · have hfin := fin_st H
                  repeat refine mf1_LiftD3 ?_
                  first | exact trivial | exact rfl
                · refine if_st H (fun h399 H => ?_) (fun h399 H => ?_)
                  · have hfin := fin_st H
                    repeat refine mf1_LiftD3 ?_
                    first | exact trivial | exact rfl
                  · refine if_st H (fun h400 H => ?_) (fun h400 H => ?_)
                    · have hfin := fin_st H
                      repeat refine mf1_LiftD3 ?_
                      first | exact trivial | exact rfl
                    · refine if_st H (fun h401 H => ?_) (fun h401 H => ?_)
                      · have hfin := fin_st H
                        repeat refine mf1_LiftD3 ?_
                        first | exact trivial | exact rfl
                      · have hfin := fin_st H
                        repeat refine mf1_LiftD3 ?_
                        first | exact trivial | exact rfl
  · intro v384 H
    refine ob_ck H fun h402 H => ?_
    have hfin := fin_st H
    repeat refine mf1_LiftD3 ?_
    first | exact trivial | exact rfl

/-- placard/keyin.numbered -/
noncomputable def g69 (a0 : Int) : Option ((Int × ByteArray × Int × Bool × Bool × Bool) × Bool) :=
  jn (α := _) (β := Bool) (fun k458 =>
      if a0 = 1 then
        k458 (decide (a0 = 1))
      else
        k458 (decide (a0 = 7))
  ) (fun v457 =>
    if v457 = true then
      some ((12, (⟨#[]⟩ : ByteArray), 0, false, false, false), true)
    else
      (
        jn (α := _) (β := Bool) (fun k463 =>
            if a0 = 4 then
              k463 (decide (a0 = 4))
            else
              k463 (decide (a0 = 8))
        ) (fun v462 =>
          if v462 = true then
            some ((13, (⟨#[]⟩ : ByteArray), 0, false, false, false), true)
          else
            (
              if a0 = 3 then
                some ((7, (⟨#[]⟩ : ByteArray), 0, false, false, false), true)
              else
                (
                  if a0 = 5 then
                    some ((14, (⟨#[]⟩ : ByteArray), 0, false, false, false), true)
                  else
                    (
                      if a0 = 6 then
                        some ((15, (⟨#[]⟩ : ByteArray), 0, false, false, false), true)
                      else
                        (
                          jn (α := _) (β := Bool) (fun k474 =>
                              if a0 = 11 then
                                k474 (decide (a0 = 11))
                              else
                                (
                                  if a0 = 12 then
                                    k474 (decide (a0 = 12))
                                  else
                                    (
                                      if a0 = 13 then
                                        k474 (decide (a0 = 13))
                                      else
                                        (
                                          if a0 = 14 then
                                            k474 (decide (a0 = 14))
                                          else
                                            k474 (decide (a0 = 15))
                                        )
                                    )
                                )
                          ) (fun v473 =>
                            if v473 = true then
                              (
                                ck (inR .i64 (a0 - 10)) <|
                                some ((18, (⟨#[]⟩ : ByteArray), a0 - 10, false, false, false), true)
                              )
                            else
                              (
                                jn (α := _) (β := Bool) (fun k486 =>
                                    if a0 = 17 then
                                      k486 (decide (a0 = 17))
                                    else
                                      (
                                        if a0 = 18 then
                                          k486 (decide (a0 = 18))
                                        else
                                          (
                                            if a0 = 19 then
                                              k486 (decide (a0 = 19))
                                            else
                                              (
                                                if a0 = 20 then
                                                  k486 (decide (a0 = 20))
                                                else
                                                  k486 (decide (a0 = 21))
                                              )
                                          )
                                      )
                                ) (fun v485 =>
                                  if v485 = true then
                                    (
                                      ck (inR .i64 (a0 - 11)) <|
                                      some ((18, (⟨#[]⟩ : ByteArray), a0 - 11, false, false, false), true)
                                    )
                                  else
                                    (
                                      if a0 = 23 then
                                        (
                                          if a0 = 23 then
                                            (
                                              ck (inR .i64 (a0 - 12)) <|
                                              some ((18, (⟨#[]⟩ : ByteArray), a0 - 12, false, false, false), true)
                                            )
                                          else
                                            some ((0, (⟨#[]⟩ : ByteArray), 0, false, false, false), false)
                                        )
                                      else
                                        (
                                          if a0 = 24 then
                                            (
                                              ck (inR .i64 (a0 - 12)) <|
                                              some ((18, (⟨#[]⟩ : ByteArray), a0 - 12, false, false, false), true)
                                            )
                                          else
                                            some ((0, (⟨#[]⟩ : ByteArray), 0, false, false, false), false)
                                        )
                                    )
                                )
                              )
                          )
                        )
                    )
                )
            )
        )
      )
  )
noncomputable def k69 : Eng.CS := { f := 69, calm := true, more := 0, ι := Int × ((Int × ByteArray × Int × Bool × Bool × Bool) × Bool), ok := fun i => g69 i.1 = some i.2, rds := fun _ => [], args := fun i => [.w (.v (.int .i64 (i.1)))], res := fun i => .tup [.agg [.v (.int .i64 (i.2.1.1)), .v (.string (i.2.1.2.1)), .v (.int .i64 (i.2.1.2.2.1)), bS i.2.1.2.2.2.1, bS i.2.1.2.2.2.2.1, bS i.2.1.2.2.2.2.2], bS i.2.2] }
set_option maxRecDepth 8000 in
set_option maxHeartbeats 4000000 in
theorem k69_ok : CalmOk Tryd.prog k69 := by
  refine R.calmspec Tryd.func69 nm69 rfl ?_
  rintro ⟨a0, r⟩ hok q _ args hargs
  match args, hargs with
  | [_], hargs =>
  obtain ⟨rfl, _⟩ := hargs
  refine ⟨envC [] false [(69, 4), (69, 7), (69, 19), (69, 25)], 6, envC_ok (css_nil), rfl, (by intro x hx; simp only [List.mem_cons, List.not_mem_nil, or_false] at hx; rcases hx with rfl <;> rfl), ?_⟩
  have H : Gives (g69 a0) (fun a => a = r) := ⟨r, hok, rfl⟩
  unfold g69 at H
  clear hok
  refine R.cut_fam H 8 [0, 2, 4] [] (fun v457 => [(5, bS v457)]) (fun v457 => []) [(0, .cells 51 [.v (.int .i64 (0)), .v (.string ((⟨#[]⟩ : ByteArray))), .v (.int .i64 (0)), .bb false, .bb false, .bb false])] 0 (fun H => ?_)
  refine And.intro ?_ ?_
  · refine if_st H (fun h459 H => ?_) (fun h459 H => ?_)
    · refine ⟨(decide (a0 = 1)), ⟨H⟩, ⟨rfl⟩, ?_⟩
      repeat refine mo1_LiftD3 ?_
      first | exact trivial | exact rfl
    · refine ⟨(decide (a0 = 7)), ⟨H⟩, ⟨rfl⟩, ?_⟩
      repeat refine mo1_LiftD3 ?_
      first | exact trivial | exact rfl
  · intro v457 H
    refine if_st H (fun h460 H => ?_) (fun h460 H => ?_)
    · have hfin := fin_st H
      repeat refine mf1_LiftD3 ?_
      first | exact trivial | exact rfl
    · refine R.cut_fam H 13 [0, 2, 4] [] (fun v462 => [(9, bS v462)]) (fun v462 => []) [(0, .cells 51 [.v (.int .i64 (0)), .v (.string ((⟨#[]⟩ : ByteArray))), .v (.int .i64 (0)), .bb false, .bb false, .bb false])] 0 (fun H => ?_)
      refine And.intro ?_ ?_
      · refine if_st H (fun h464 H => ?_) (fun h464 H => ?_)
        · refine ⟨(decide (a0 = 4)), ⟨H⟩, ⟨rfl⟩, ?_⟩
          repeat refine mo1_LiftD3 ?_
          first | exact trivial | exact rfl
        · refine ⟨(decide (a0 = 8)), ⟨H⟩, ⟨rfl⟩, ?_⟩
          repeat refine mo1_LiftD3 ?_
          first | exact trivial | exact rfl
      · intro v462 H
        refine if_st H (fun h465 H => ?_) (fun h465 H => ?_)
        · have hfin := fin_st H
          repeat refine mf1_LiftD3 ?_
          first | exact trivial | exact rfl
        · refine if_st H (fun h466 H => ?_) (fun h466 H => ?_)
          · have hfin := fin_st H
            repeat refine mf1_LiftD3 ?_
            first | exact trivial | exact rfl
          · refine if_st H (fun h467 H => ?_) (fun h467 H => ?_)
            · have hfin := fin_st H
              repeat refine mf1_LiftD3 ?_
              first | exact trivial | exact rfl
            · refine if_st H (fun h468 H => ?_) (fun h468 H => ?_)
              · have hfin := fin_st H
                repeat refine mf1_LiftD3 ?_
                first | exact trivial | exact rfl
              · refine R.cut_fam H 30 [0, 2, 4] [] (fun v473 => [(22, bS v473)]) (fun v473 => []) [(0, .cells 51 [.v (.int .i64 (0)), .v (.string ((⟨#[]⟩ : ByteArray))), .v (.int .i64 (0)), .bb false, .bb false, .bb false])] 0 (fun H => ?_)
                refine And.intro ?_ ?_
                · refine if_st H (fun h475 H => ?_) (fun h475 H => ?_)
                  · refine ⟨(decide (a0 = 11)), ⟨H⟩, ⟨rfl⟩, ?_⟩
                    repeat refine mo1_LiftD3 ?_
                    first | exact trivial | exact rfl
                  · refine if_st H (fun h476 H => ?_) (fun h476 H => ?_)
                    · refine ⟨(decide (a0 = 12)), ⟨H⟩, ⟨rfl⟩, ?_⟩
                      repeat refine mo1_LiftD3 ?_
                      first | exact trivial | exact rfl
                    · refine if_st H (fun h477 H => ?_) (fun h477 H => ?_)
                      · refine ⟨(decide (a0 = 13)), ⟨H⟩, ⟨rfl⟩, ?_⟩
                        repeat refine mo1_LiftD3 ?_
                        first | exact trivial | exact rfl
                      · refine if_st H (fun h478 H => ?_) (fun h478 H => ?_)
                        · refine ⟨(decide (a0 = 14)), ⟨H⟩, ⟨rfl⟩, ?_⟩
                          repeat refine mo1_LiftD3 ?_
                          first | exact trivial | exact rfl
                        · refine ⟨(decide (a0 = 15)), ⟨H⟩, ⟨rfl⟩, ?_⟩
                          repeat refine mo1_LiftD3 ?_
                          first | exact trivial | exact rfl
                · intro v473 H
                  refine if_st H (fun h479 H => ?_) (fun h479 H => ?_)
                  · refine ob_ck H fun h480 H => ?_
                    have hfin := fin_st H
                    repeat refine mf1_LiftD3 ?_
                    first | exact trivial | exact rfl
                  · refine R.cut_fam H 41 [0, 2, 4] [] (fun v485 => [(31, bS v485)]) (fun v485 => []) [(0, .cells 51 [.v (.int .i64 (0)), .v (.string ((⟨#[]⟩ : ByteArray))), .v (.int .i64 (0)), .bb false, .bb false, .bb false])] 0 (fun H => ?_)
                    refine And.intro ?_ ?_
                    · refine if_st H (fun h487 H => ?_) (fun h487 H => ?_)
                      · refine ⟨(decide (a0 = 17)), ⟨H⟩, ⟨rfl⟩, ?_⟩
                        repeat refine mo1_LiftD3 ?_
                        first | exact trivial | exact rfl
                      · refine if_st H (fun h488 H => ?_) (fun h488 H => ?_)
                        · refine ⟨(decide (a0 = 18)), ⟨H⟩, ⟨rfl⟩, ?_⟩
                          repeat refine mo1_LiftD3 ?_
                          first | exact trivial | exact rfl
                        · refine if_st H (fun h489 H => ?_) (fun h489 H => ?_)
                          · refine ⟨(decide (a0 = 19)), ⟨H⟩, ⟨rfl⟩, ?_⟩
                            repeat refine mo1_LiftD3 ?_
                            first | exact trivial | exact rfl
                          · refine if_st H (fun h490 H => ?_) (fun h490 H => ?_)
                            · refine ⟨(decide (a0 = 20)), ⟨H⟩, ⟨rfl⟩, ?_⟩
                              repeat refine mo1_LiftD3 ?_
                              first | exact trivial | exact rfl
                            · refine ⟨(decide (a0 = 21)), ⟨H⟩, ⟨rfl⟩, ?_⟩
                              repeat refine mo1_LiftD3 ?_
                              first | exact trivial | exact rfl
                    · intro v485 H
                      refine if_st H (fun h491 H => ?_) (fun h491 H => ?_)
                      · refine ob_ck H fun h492 H => ?_
                        have hfin := fin_st H
                        repeat refine mf1_LiftD3 ?_
                        first | exact trivial | exact rfl
                      · refine if_st H (fun h493 H => ?_) (fun h493 H => ?_)
                        · refine if_st H (fun h494 H => ?_) (fun h494 H => ?_)
                          · refine ob_ck H fun h495 H => ?_
                            have hfin := fin_st H
                            repeat refine mf1_LiftD3 ?_
                            first | exact trivial | exact rfl
                          · have hfin := fin_st H
                            repeat refine mf1_LiftD3 ?_
                            first | exact trivial | exact rfl
                        · refine if_st H (fun h496 H => ?_) (fun h496 H => ?_)
                          · refine ob_ck H fun h497 H => ?_
                            have hfin := fin_st H
                            repeat refine mf1_LiftD3 ?_
                            first | exact trivial | exact rfl
                          · have hfin := fin_st H
                            repeat refine mf1_LiftD3 ?_
                            first | exact trivial | exact rfl

/-- placard/placardref07.tilde -/
noncomputable def g60 (a0 : Int) : Option ((Int × ByteArray × Int × Bool × Bool × Bool) × Bool) :=
  jn (α := _) (β := Bool) (fun k534 =>
      if a0 = 1 then
        k534 true
      else
        k534 (decide (a0 = 7))
  ) (fun v533 =>
    if v533 = true then
      some ((12, (⟨#[]⟩ : ByteArray), 0, false, false, false), true)
    else
      (
        jn (α := _) (β := Bool) (fun k539 =>
            if a0 = 4 then
              k539 true
            else
              k539 (decide (a0 = 8))
        ) (fun v538 =>
          if v538 = true then
            some ((13, (⟨#[]⟩ : ByteArray), 0, false, false, false), true)
          else
            (
              if a0 = 3 then
                some ((7, (⟨#[]⟩ : ByteArray), 0, false, false, false), true)
              else
                (
                  if a0 = 5 then
                    some ((14, (⟨#[]⟩ : ByteArray), 0, false, false, false), true)
                  else
                    (
                      if a0 = 6 then
                        some ((15, (⟨#[]⟩ : ByteArray), 0, false, false, false), true)
                      else
                        (
                          jn (α := _) (β := Bool) (fun k547 =>
                              if 11 ≤ a0 then
                                k547 (decide (a0 ≤ 15))
                              else
                                k547 false
                          ) (fun v546 =>
                            if v546 = true then
                              (
                                ck (inR .i64 (a0 - 10)) <|
                                some ((18, (⟨#[]⟩ : ByteArray), a0 - 10, false, false, false), true)
                              )
                            else
                              (
                                jn (α := _) (β := Bool) (fun k553 =>
                                    if 17 ≤ a0 then
                                      k553 (decide (a0 ≤ 21))
                                    else
                                      k553 false
                                ) (fun v552 =>
                                  if v552 = true then
                                    (
                                      ck (inR .i64 (a0 - 11)) <|
                                      some ((18, (⟨#[]⟩ : ByteArray), a0 - 11, false, false, false), true)
                                    )
                                  else
                                    (
                                      if a0 = 23 then
                                        (
                                          ck (inR .i64 (a0 - 12)) <|
                                          some ((18, (⟨#[]⟩ : ByteArray), a0 - 12, false, false, false), true)
                                        )
                                      else
                                        (
                                          if a0 = 24 then
                                            (
                                              ck (inR .i64 (a0 - 12)) <|
                                              some ((18, (⟨#[]⟩ : ByteArray), a0 - 12, false, false, false), true)
                                            )
                                          else
                                            some ((0, (⟨#[]⟩ : ByteArray), 0, false, false, false), false)
                                        )
                                    )
                                )
                              )
                          )
                        )
                    )
                )
            )
        )
      )
  )
noncomputable def k60 : Eng.CS := { f := 60, calm := true, more := 0, ι := Int × ((Int × ByteArray × Int × Bool × Bool × Bool) × Bool), ok := fun i => g60 i.1 = some i.2, rds := fun _ => [], args := fun i => [.w (.v (.int .i64 (i.1)))], res := fun i => .tup [.agg [.v (.int .i64 (i.2.1.1)), .v (.string (i.2.1.2.1)), .v (.int .i64 (i.2.1.2.2.1)), bS i.2.1.2.2.2.1, bS i.2.1.2.2.2.2.1, bS i.2.1.2.2.2.2.2], bS i.2.2] }
set_option maxRecDepth 8000 in
set_option maxHeartbeats 4000000 in
theorem k60_ok : CalmOk Tryd.prog k60 := by
  refine R.calmspec Tryd.func60 nm60 rfl ?_
  rintro ⟨a0, r⟩ hok q _ args hargs
  match args, hargs with
  | [_], hargs =>
  obtain ⟨rfl, _⟩ := hargs
  refine ⟨envC [] false [(60, 2), (60, 4), (60, 12), (60, 14)], 6, envC_ok (css_nil), rfl, (by intro x hx; simp only [List.mem_cons, List.not_mem_nil, or_false] at hx; rcases hx with rfl <;> rfl), ?_⟩
  have H : Gives (g60 a0) (fun a => a = r) := ⟨r, hok, rfl⟩
  unfold g60 at H
  clear hok
  refine R.cut_fam H 10 [0, 2] [] (fun v533 => [(4, bS v533)]) (fun v533 => []) [(0, .cells 51 [.v (.int .i64 (0)), .v (.string ((⟨#[]⟩ : ByteArray))), .v (.int .i64 (0)), .bb false, .bb false, .bb false])] 0 (fun H => ?_)
  refine And.intro ?_ ?_
  · refine if_st H (fun h535 H => ?_) (fun h535 H => ?_)
    · refine ⟨true, ⟨H⟩, ⟨rfl⟩, ?_⟩
      repeat refine mo1_LiftD3 ?_
      first | exact trivial | exact rfl
    · refine ⟨(decide (a0 = 7)), ⟨H⟩, ⟨rfl⟩, ?_⟩
      repeat refine mo1_LiftD3 ?_
      first | exact trivial | exact rfl
  · intro v533 H
    refine if_st H (fun h536 H => ?_) (fun h536 H => ?_)
    · have hfin := fin_st H
      repeat refine mf1_LiftD3 ?_
      first | exact trivial | exact rfl
    · refine R.cut_fam H 18 [0, 2] [] (fun v538 => [(12, bS v538)]) (fun v538 => []) [(0, .cells 51 [.v (.int .i64 (0)), .v (.string ((⟨#[]⟩ : ByteArray))), .v (.int .i64 (0)), .bb false, .bb false, .bb false])] 0 (fun H => ?_)
      refine And.intro ?_ ?_
      · refine if_st H (fun h540 H => ?_) (fun h540 H => ?_)
        · refine ⟨true, ⟨H⟩, ⟨rfl⟩, ?_⟩
          repeat refine mo1_LiftD3 ?_
          first | exact trivial | exact rfl
        · refine ⟨(decide (a0 = 8)), ⟨H⟩, ⟨rfl⟩, ?_⟩
          repeat refine mo1_LiftD3 ?_
          first | exact trivial | exact rfl
      · intro v538 H
        refine if_st H (fun h541 H => ?_) (fun h541 H => ?_)
        · have hfin := fin_st H
          repeat refine mf1_LiftD3 ?_
          first | exact trivial | exact rfl
        · refine if_st H (fun h542 H => ?_) (fun h542 H => ?_)
          · have hfin := fin_st H
            repeat refine mf1_LiftD3 ?_
            first | exact trivial | exact rfl
          · refine if_st H (fun h543 H => ?_) (fun h543 H => ?_)
            · have hfin := fin_st H
              repeat refine mf1_LiftD3 ?_
              first | exact trivial | exact rfl
            · refine if_st H (fun h544 H => ?_) (fun h544 H => ?_)
              · have hfin := fin_st H
                repeat refine mf1_LiftD3 ?_
                first | exact trivial | exact rfl
              · refine R.cut_fam H 35 [0, 2] [] (fun v546 => [(32, bS v546)]) (fun v546 => []) [(0, .cells 51 [.v (.int .i64 (0)), .v (.string ((⟨#[]⟩ : ByteArray))), .v (.int .i64 (0)), .bb false, .bb false, .bb false])] 0 (fun H => ?_)
                refine And.intro ?_ ?_
                · refine if_st H (fun h548 H => ?_) (fun h548 H => ?_)
                  · refine ⟨(decide (a0 ≤ 15)), ⟨H⟩, ⟨rfl⟩, ?_⟩
                    repeat refine mo1_LiftD3 ?_
                    first | exact trivial | exact rfl
                  · refine ⟨false, ⟨H⟩, ⟨rfl⟩, ?_⟩
                    repeat refine mo1_LiftD3 ?_
                    first | exact trivial | exact rfl
                · intro v546 H
                  refine if_st H (fun h549 H => ?_) (fun h549 H => ?_)
                  · refine ob_ck H fun h550 H => ?_
                    have hfin := fin_st H
                    repeat refine mf1_LiftD3 ?_
                    first | exact trivial | exact rfl
                  · refine R.cut_fam H 43 [0, 2] [] (fun v552 => [(42, bS v552)]) (fun v552 => []) [(0, .cells 51 [.v (.int .i64 (0)), .v (.string ((⟨#[]⟩ : ByteArray))), .v (.int .i64 (0)), .bb false, .bb false, .bb false])] 0 (fun H => ?_)
                    refine And.intro ?_ ?_
                    · refine if_st H (fun h554 H => ?_) (fun h554 H => ?_)
                      · refine ⟨(decide (a0 ≤ 21)), ⟨H⟩, ⟨rfl⟩, ?_⟩
                        repeat refine mo1_LiftD3 ?_
                        first | exact trivial | exact rfl
                      · refine ⟨false, ⟨H⟩, ⟨rfl⟩, ?_⟩
                        repeat refine mo1_LiftD3 ?_
                        first | exact trivial | exact rfl
                    · intro v552 H
                      refine if_st H (fun h555 H => ?_) (fun h555 H => ?_)
                      · refine ob_ck H fun h556 H => ?_
                        have hfin := fin_st H
                        repeat refine mf1_LiftD3 ?_
                        first | exact trivial | exact rfl
                      · refine if_st H (fun h557 H => ?_) (fun h557 H => ?_)
                        · refine ob_ck H fun h558 H => ?_
                          have hfin := fin_st H
                          repeat refine mf1_LiftD3 ?_
                          first | exact trivial | exact rfl
                        · refine if_st H (fun h559 H => ?_) (fun h559 H => ?_)
                          · refine ob_ck H fun h560 H => ?_
                            have hfin := fin_st H
                            repeat refine mf1_LiftD3 ?_
                            first | exact trivial | exact rfl
                          · have hfin := fin_st H
                            repeat refine mf1_LiftD3 ?_
                            first | exact trivial | exact rfl

/-- placard/keyin.held -/
noncomputable def g70 (a0 : (Int × ByteArray × Int × Bool × Bool × Bool)) (a1 : Int) : Option ((Int × ByteArray × Int × Bool × Bool × Bool) × Bool) :=
  if a1 < 1 then
    some ((0, (⟨#[]⟩ : ByteArray), 0, false, false, false), false)
  else
    (
      if 8 < a1 then
        some ((0, (⟨#[]⟩ : ByteArray), 0, false, false, false), false)
      else
        (
          ck (inR .i64 (a1 - 1)) <|
          some ((a0.1, a0.2.1, a0.2.2.1, (decide (¬ (bits .and .i64 (a1 - 1) 2) = 0)), (decide (¬ (bits .and .i64 (a1 - 1) 1) = 0)), (decide (¬ (bits .and .i64 (a1 - 1) 4) = 0))), true)
        )
    )
noncomputable def k70 : Eng.CS := { f := 70, calm := true, more := 0, ι := (Int × ByteArray × Int × Bool × Bool × Bool) × Int × ((Int × ByteArray × Int × Bool × Bool × Bool) × Bool), ok := fun i => g70 i.1 i.2.1 = some i.2.2, rds := fun _ => [], args := fun i => [.w (.agg [.v (.int .i64 (i.1.1)), .v (.string (i.1.2.1)), .v (.int .i64 (i.1.2.2.1)), bS i.1.2.2.2.1, bS i.1.2.2.2.2.1, bS i.1.2.2.2.2.2]), .w (.v (.int .i64 (i.2.1)))], res := fun i => .tup [.agg [.v (.int .i64 (i.2.2.1.1)), .v (.string (i.2.2.1.2.1)), .v (.int .i64 (i.2.2.1.2.2.1)), bS i.2.2.1.2.2.2.1, bS i.2.2.1.2.2.2.2.1, bS i.2.2.1.2.2.2.2.2], bS i.2.2.2] }
set_option maxRecDepth 8000 in
set_option maxHeartbeats 4000000 in
theorem k70_ok : CalmOk Tryd.prog k70 := by
  refine R.calmspec Tryd.func70 nm70 rfl ?_
  rintro ⟨a0, a1, r⟩ hok q _ args hargs
  match args, hargs with
  | [_, _], hargs =>
  obtain ⟨rfl, rfl, _⟩ := hargs
  refine ⟨envC [] false [], 6, envC_ok (css_nil), rfl, (by intro x hx; simp only [List.mem_cons, List.not_mem_nil, or_false] at hx; rcases hx with rfl | rfl <;> rfl), ?_⟩
  have H : Gives (g70 a0 a1) (fun a => a = r) := ⟨r, hok, rfl⟩
  unfold g70 at H
  clear hok
  refine if_st H (fun h564 H => ?_) (fun h564 H => ?_)
  · have hfin := fin_st H
    repeat refine mf1_LiftD3 ?_
    first | exact trivial | exact rfl
  · refine if_st H (fun h565 H => ?_) (fun h565 H => ?_)
    · have hfin := fin_st H
      repeat refine mf1_LiftD3 ?_
      first | exact trivial | exact rfl
    · refine ob_ck H fun h566 H => ?_
      have hfin := fin_st H
      repeat refine mf1_LiftD3 ?_
      first | exact trivial | exact rfl

/-- placard/keyin.only -/
noncomputable def g67 (a0 : (Int × ByteArray × Int × Bool × Bool × Bool)) (a1 : Bool) : Option ((Int × ByteArray × Int × Bool × Bool × Bool) × Bool) :=
  if ¬ (a1 = true) then
    some ((0, (⟨#[]⟩ : ByteArray), 0, false, false, false), false)
  else
    some ((a0.1, a0.2.1, a0.2.2.1, a0.2.2.2.1, a0.2.2.2.2.1, a0.2.2.2.2.2), true)
noncomputable def k67 : Eng.CS := { f := 67, calm := true, more := 0, ι := (Int × ByteArray × Int × Bool × Bool × Bool) × Bool × ((Int × ByteArray × Int × Bool × Bool × Bool) × Bool), ok := fun i => g67 i.1 i.2.1 = some i.2.2, rds := fun _ => [], args := fun i => [.w (.agg [.v (.int .i64 (i.1.1)), .v (.string (i.1.2.1)), .v (.int .i64 (i.1.2.2.1)), bS i.1.2.2.2.1, bS i.1.2.2.2.2.1, bS i.1.2.2.2.2.2]), .w (bS i.2.1)], res := fun i => .tup [.agg [.v (.int .i64 (i.2.2.1.1)), .v (.string (i.2.2.1.2.1)), .v (.int .i64 (i.2.2.1.2.2.1)), bS i.2.2.1.2.2.2.1, bS i.2.2.1.2.2.2.2.1, bS i.2.2.1.2.2.2.2.2], bS i.2.2.2] }
set_option maxRecDepth 8000 in
set_option maxHeartbeats 4000000 in
theorem k67_ok : CalmOk Tryd.prog k67 := by
  refine R.calmspec Tryd.func67 nm67 rfl ?_
  rintro ⟨a0, a1, r⟩ hok q _ args hargs
  match args, hargs with
  | [_, _], hargs =>
  obtain ⟨rfl, rfl, _⟩ := hargs
  refine ⟨envC [] false [], 6, envC_ok (css_nil), rfl, (by intro x hx; simp only [List.mem_cons, List.not_mem_nil, or_false] at hx; rcases hx with rfl | rfl <;> rfl), ?_⟩
  have H : Gives (g67 a0 a1) (fun a => a = r) := ⟨r, hok, rfl⟩
  unfold g67 at H
  clear hok
  refine if_st H (fun h568 H => ?_) (fun h568 H => ?_)
  · have hfin := fin_st H
    repeat refine mf1_LiftD3 ?_
    first | exact trivial | exact rfl
  · have hfin := fin_st H
    repeat refine mf1_LiftD3 ?_
    first | exact trivial | exact rfl

/-- placard/keyin.numbers -/
noncomputable def g68 (a0 : List Int) : Option ((Int × Int) × Int × Bool) :=
  jn (α := _) (β := Int × Int × Int × Int) (fun k758 =>
      (loopO (σ := Int × Int × Int × Int × Int) (ρ := (Int × Int) ⊕ (Int × Int × Int × Int)) (fun s761 =>
          if s761.2.2.2.2 < ((a0.length : Nat) : Int) then
            (
              ck (0 ≤ s761.2.2.2.2 ∧ s761.2.2.2.2 < ((a0.length : Nat) : Int)) <|
              jn (α := _) (β := Bool) (fun k858 =>
                  if (a0.getD s761.2.2.2.2.toNat 0) = 59 then
                    k858 (decide (s761.2.2.1 = 0))
                  else
                    k858 false
              ) (fun v857 =>
                if v857 = true then
                  (
                    if s761.2.2.2.1 = 0 then
                      (
                        ck (0 ≤ (0 : Int) ∧ 0 < ((2 : Nat) : Int)) <|
                        if 0 = ((0 : Nat) : Int) then
                          (
                            ck (inR .i64 (s761.2.2.2.2 + 1)) <|
                            some (.go (1, s761.2.1, 1, 0, s761.2.2.2.2 + 1))
                          )
                        else
                          (
                            if 0 = ((1 : Nat) : Int) then
                              (
                                ck (inR .i64 (s761.2.2.2.2 + 1)) <|
                                some (.go (s761.1, 1, 1, 0, s761.2.2.2.2 + 1))
                              )
                            else
                              none
                          )
                      )
                    else
                      (
                        ck (inR .i64 (s761.2.2.2.2 + 1)) <|
                        some (.go (s761.1, s761.2.1, 1, 0, s761.2.2.2.2 + 1))
                      )
                  )
                else
                  (
                    jn (α := _) (β := Bool) (fun k871 =>
                        if 48 ≤ (a0.getD s761.2.2.2.2.toNat 0) then
                          (
                            if (a0.getD s761.2.2.2.2.toNat 0) ≤ 57 then
                              k871 (decide (s761.2.2.2.1 < 4))
                            else
                              k871 false
                          )
                        else
                          k871 false
                    ) (fun v870 =>
                      if v870 = true then
                        (
                          ck (0 ≤ s761.2.2.1 ∧ s761.2.2.1 < ((2 : Nat) : Int)) <|
                          if s761.2.2.1 = ((0 : Nat) : Int) then
                            (
                              ck (inR .i64 (s761.1 * 10)) <|
                              ck (inR .u8 ((a0.getD s761.2.2.2.2.toNat 0) - 48)) <|
                              ck (inR .i64 ((a0.getD s761.2.2.2.2.toNat 0) - 48)) <|
                              ck (inR .i64 ((s761.1 * 10) + ((a0.getD s761.2.2.2.2.toNat 0) - 48))) <|
                              ck (0 ≤ s761.2.2.1 ∧ s761.2.2.1 < ((2 : Nat) : Int)) <|
                              if s761.2.2.1 = ((0 : Nat) : Int) then
                                (
                                  ck (inR .i64 (s761.2.2.2.1 + 1)) <|
                                  ck (inR .i64 (s761.2.2.2.2 + 1)) <|
                                  some (.go ((s761.1 * 10) + ((a0.getD s761.2.2.2.2.toNat 0) - 48), s761.2.1, s761.2.2.1, s761.2.2.2.1 + 1, s761.2.2.2.2 + 1))
                                )
                              else
                                (
                                  if s761.2.2.1 = ((1 : Nat) : Int) then
                                    (
                                      ck (inR .i64 (s761.2.2.2.1 + 1)) <|
                                      ck (inR .i64 (s761.2.2.2.2 + 1)) <|
                                      some (.go (s761.1, (s761.1 * 10) + ((a0.getD s761.2.2.2.2.toNat 0) - 48), s761.2.2.1, s761.2.2.2.1 + 1, s761.2.2.2.2 + 1))
                                    )
                                  else
                                    none
                                )
                            )
                          else
                            (
                              if s761.2.2.1 = ((1 : Nat) : Int) then
                                (
                                  ck (inR .i64 (s761.2.1 * 10)) <|
                                  ck (inR .u8 ((a0.getD s761.2.2.2.2.toNat 0) - 48)) <|
                                  ck (inR .i64 ((a0.getD s761.2.2.2.2.toNat 0) - 48)) <|
                                  ck (inR .i64 ((s761.2.1 * 10) + ((a0.getD s761.2.2.2.2.toNat 0) - 48))) <|
                                  ck (0 ≤ s761.2.2.1 ∧ s761.2.2.1 < ((2 : Nat) : Int)) <|
                                  if s761.2.2.1 = ((0 : Nat) : Int) then
                                    (
                                      ck (inR .i64 (s761.2.2.2.1 + 1)) <|
                                      ck (inR .i64 (s761.2.2.2.2 + 1)) <|
                                      some (.go ((s761.2.1 * 10) + ((a0.getD s761.2.2.2.2.toNat 0) - 48), s761.2.1, s761.2.2.1, s761.2.2.2.1 + 1, s761.2.2.2.2 + 1))
                                    )
                                  else
                                    (
                                      if s761.2.2.1 = ((1 : Nat) : Int) then
                                        (
                                          ck (inR .i64 (s761.2.2.2.1 + 1)) <|
                                          ck (inR .i64 (s761.2.2.2.2 + 1)) <|
                                          some (.go (s761.1, (s761.2.1 * 10) + ((a0.getD s761.2.2.2.2.toNat 0) - 48), s761.2.2.1, s761.2.2.2.1 + 1, s761.2.2.2.2 + 1))
                                        )
                                      else
                                        none
                                    )
                                )
                              else
                                none
                            )
                        )
                      else
                        some (.out (.inl ((s761.1, s761.2.1))))
                    )
                  )
              )
            )
          else
            some (.out (.inr ((s761.1, s761.2.1, s761.2.2.1, s761.2.2.2.1))))
        ) (0, 0, 0, 0, 0)).bind fun o853 =>
      sm o853 (fun o900 =>
          some ((o900.1, o900.2), 0, false)
        ) (fun o901 =>
          k758 (o901.1, o901.2.1, o901.2.2.1, o901.2.2.2)
        )
  ) (fun v757 =>
    if v757.2.2.2 = 0 then
      (
        ck (0 ≤ v757.2.2.1 ∧ v757.2.2.1 < ((2 : Nat) : Int)) <|
        if v757.2.2.1 = ((0 : Nat) : Int) then
          (
            ck (inR .i64 (v757.2.2.1 + 1)) <|
            some ((1, v757.2.1), v757.2.2.1 + 1, true)
          )
        else
          (
            if v757.2.2.1 = ((1 : Nat) : Int) then
              (
                ck (inR .i64 (v757.2.2.1 + 1)) <|
                some ((v757.1, 1), v757.2.2.1 + 1, true)
              )
            else
              none
          )
      )
    else
      (
        ck (inR .i64 (v757.2.2.1 + 1)) <|
        some ((v757.1, v757.2.1), v757.2.2.1 + 1, true)
      )
  )
noncomputable def k68 : Eng.CS := { f := 68, calm := true, more := 0, ι := (List Int) × ((Int × Int) × Int × Bool), ok := fun i => g68 i.1 = some i.2, rds := fun _ => [], args := fun i => [.sl 1 i.1.length (ei .u8 i.1)], res := fun i => .tup [.agg [.v (.int .i64 (i.2.1.1)), .v (.int .i64 (i.2.1.2))], .v (.int .i64 (i.2.2.1)), bS i.2.2.2] }
set_option maxRecDepth 8000 in
set_option maxHeartbeats 4000000 in
theorem k68_ok : CalmOk Tryd.prog k68 := by
  refine R.calmspec Tryd.func68 nm68 rfl ?_
  rintro ⟨a0, r⟩ hok q _ args hargs
  match args, hargs with
  | [_], hargs =>
  obtain ⟨⟨A0, cp0, rfl, hc0, _, hR0⟩, _⟩ := hargs
  refine ⟨envC [] false [(68, 7), (68, 12), (68, 15)], 6, envC_ok (css_nil), rfl, (by intro x hx; simp only [List.mem_cons, List.not_mem_nil, or_false] at hx; rcases hx with rfl <;> rfl), ?_⟩
  have H : Gives (g68 a0) (fun a => a = r) := ⟨r, hok, rfl⟩
  unfold g68 at H
  clear hok
  refine R.cut_fam H 10 [2] [] (fun v757 => [(3, .v (.int .i64 (v757.2.2.1))), (5, .v (.int .i64 (v757.2.2.2)))]) (fun v757 => [(0, .cells 108 [.v (.int .i64 (v757.1)), .v (.int .i64 (v757.2.1))])]) [] 0 (fun H => ?_)
  refine And.intro ?_ ?_
  · refine R.loop_fam (bind_st H) [2, 8, 9] [] (fun _ s761 => [(3, .v (.int .i64 (s761.2.2.1))), (5, .v (.int .i64 (s761.2.2.2.1))), (10, .v (.int .i64 (s761.2.2.2.2)))]) (fun _ s761 => [(0, .cells 108 [.v (.int .i64 (s761.1)), .v (.int .i64 (s761.2.1))])]) 0 (fun n902 H => ?_)
    refine ⟨(n902, _), ⟨H⟩, ⟨trivial⟩, ?_⟩
    repeat refine mo1_LiftD3 ?_
    rintro ⟨m0, s761⟩ H _
    obtain ⟨m762, hm0, H⟩ := IG_succ H
    dsimp only at hm0
    subst hm0
    try dsimp only at H
    refine if_st H (fun h854 H => ?_) (fun h854 H => ?_)
    · refine ob_ix hR0 (fun h => ei0 h) H fun h855 H => ?_
      refine ld_int (e := a0.getD s761.2.2.2.2.toNat 0) (rd_get hR0 (ei_get (l := a0) (tn h855))) ?_
      refine R.cut_fam H 19 [2, 3, 5, 7, 8, 9, 10] [] (fun v857 => [(15, bS v857)]) (fun v857 => []) [(0, .cells 108 [.v (.int .i64 (s761.1)), .v (.int .i64 (s761.2.1))])] 0 (fun H => ?_)
      refine And.intro ?_ ?_
      · refine if_st H (fun h859 H => ?_) (fun h859 H => ?_)
        · refine ⟨(decide (s761.2.2.1 = 0)), ⟨H⟩, ⟨rfl⟩, ?_⟩
          repeat refine mo1_LiftD3 ?_
          first | exact trivial | exact rfl
        · refine ⟨false, ⟨H⟩, ⟨rfl⟩, ?_⟩
          repeat refine mo1_LiftD3 ?_
          first | exact trivial | exact rfl
      · intro v857 H
        refine if_st H (fun h860 H => ?_) (fun h860 H => ?_)
        · refine if_st H (fun h861 H => ?_) (fun h861 H => ?_)
          · refine ob_ck H fun h862 H => ?_
            replace H := ix_in H
            refine ix_st (fun hc => by omega) H (fun h863 H => ?_) (fun H => ?_)
            · refine ob_ck H fun h864 H => ?_
              replace H := some_st H
              refine ⟨(m762, (1, s761.2.1, 1, 0, s761.2.2.2.2 + 1)), ⟨H, Nat.lt_succ_self _⟩, ⟨trivial⟩, ⟨rfl⟩, ?_⟩
              repeat refine mo1_LiftD3 ?_
              first | exact trivial | exact rfl
            · refine ix_st (fun hc => by omega) H (fun h865 H => ?_) (fun H => ?_)
              · refine ob_ck H fun h866 H => ?_
                replace H := some_st H
                refine ⟨(m762, (s761.1, 1, 1, 0, s761.2.2.2.2 + 1)), ⟨H, Nat.lt_succ_self _⟩, ⟨trivial⟩, ⟨rfl⟩, ?_⟩
                repeat refine mo1_LiftD3 ?_
                first | exact trivial | exact rfl
              · exact trivial
          · refine ob_ck H fun h867 H => ?_
            replace H := some_st H
            refine ⟨(m762, (s761.1, s761.2.1, 1, 0, s761.2.2.2.2 + 1)), ⟨H, Nat.lt_succ_self _⟩, ⟨trivial⟩, ⟨rfl⟩, ?_⟩
            repeat refine mo1_LiftD3 ?_
            first | exact trivial | exact rfl
        · refine R.cut_fam H 31 [2, 3, 5, 7, 8, 9, 10] [] (fun v870 => [(25, bS v870)]) (fun v870 => []) [(0, .cells 108 [.v (.int .i64 (s761.1)), .v (.int .i64 (s761.2.1))])] 0 (fun H => ?_)
          refine And.intro ?_ ?_
          · refine if_st H (fun h872 H => ?_) (fun h872 H => ?_)
            · refine if_st H (fun h873 H => ?_) (fun h873 H => ?_)
              · refine ⟨(decide (s761.2.2.2.1 < 4)), ⟨H⟩, ⟨rfl⟩, ?_⟩
                repeat refine mo1_LiftD3 ?_
                first | exact trivial | exact rfl
              · refine ⟨false, ⟨H⟩, ⟨rfl⟩, ?_⟩
                repeat refine mo1_LiftD3 ?_
                first | exact trivial | exact rfl
            · refine ⟨false, ⟨H⟩, ⟨rfl⟩, ?_⟩
              repeat refine mo1_LiftD3 ?_
              first | exact trivial | exact rfl
          · intro v870 H
            refine if_st H (fun h874 H => ?_) (fun h874 H => ?_)
            · refine ob_ck H fun h875 H => ?_
              replace H := ix_in H
              refine ix_st (fun hc => by omega) H (fun h876 H => ?_) (fun H => ?_)
              · refine ob_ck H fun h877 H => ?_
                refine ob_ck H fun h878 H => ?_
                refine ob_ck H fun h879 H => ?_
                refine ob_ck H fun h880 H => ?_
                refine ob_ck H fun h881 H => ?_
                replace H := ix_in H
                refine ix_st (fun hc => by omega) H (fun h882 H => ?_) (fun H => ?_)
                · refine ob_ck H fun h883 H => ?_
                  refine ob_ck H fun h884 H => ?_
                  replace H := some_st H
                  refine ⟨(m762, ((s761.1 * 10) + ((a0.getD s761.2.2.2.2.toNat 0) - 48), s761.2.1, s761.2.2.1, s761.2.2.2.1 + 1, s761.2.2.2.2 + 1)), ⟨H, Nat.lt_succ_self _⟩, ⟨trivial⟩, ⟨rfl⟩, ?_⟩
                  repeat refine mo1_LiftD3 ?_
                  first | exact trivial | exact rfl
                · refine ix_st (fun hc => by omega) H (fun h885 H => ?_) (fun H => ?_)
                  · refine ob_ck H fun h886 H => ?_
                    refine ob_ck H fun h887 H => ?_
                    replace H := some_st H
                    refine ⟨(m762, (s761.1, (s761.1 * 10) + ((a0.getD s761.2.2.2.2.toNat 0) - 48), s761.2.2.1, s761.2.2.2.1 + 1, s761.2.2.2.2 + 1)), ⟨H, Nat.lt_succ_self _⟩, ⟨trivial⟩, ⟨rfl⟩, ?_⟩
                    repeat refine mo1_LiftD3 ?_
                    first | exact trivial | exact rfl
                  · exact trivial
              · refine ix_st (fun hc => by omega) H (fun h888 H => ?_) (fun H => ?_)
                · refine ob_ck H fun h889 H => ?_
                  refine ob_ck H fun h890 H => ?_
                  refine ob_ck H fun h891 H => ?_
                  refine ob_ck H fun h892 H => ?_
                  refine ob_ck H fun h893 H => ?_
                  replace H := ix_in H
                  refine ix_st (fun hc => by omega) H (fun h894 H => ?_) (fun H => ?_)
                  · refine ob_ck H fun h895 H => ?_
                    refine ob_ck H fun h896 H => ?_
                    replace H := some_st H
                    refine ⟨(m762, ((s761.2.1 * 10) + ((a0.getD s761.2.2.2.2.toNat 0) - 48), s761.2.1, s761.2.2.1, s761.2.2.2.1 + 1, s761.2.2.2.2 + 1)), ⟨H, Nat.lt_succ_self _⟩, ⟨trivial⟩, ⟨rfl⟩, ?_⟩
                    repeat refine mo1_LiftD3 ?_
                    first | exact trivial | exact rfl
                  · refine ix_st (fun hc => by omega) H (fun h897 H => ?_) (fun H => ?_)
                    · refine ob_ck H fun h898 H => ?_
                      refine ob_ck H fun h899 H => ?_
                      replace H := some_st H
                      refine ⟨(m762, (s761.1, (s761.2.1 * 10) + ((a0.getD s761.2.2.2.2.toNat 0) - 48), s761.2.2.1, s761.2.2.2.1 + 1, s761.2.2.2.2 + 1)), ⟨H, Nat.lt_succ_self _⟩, ⟨trivial⟩, ⟨rfl⟩, ?_⟩
                      repeat refine mo1_LiftD3 ?_
                      first | exact trivial | exact rfl
                    · exact trivial
                · exact trivial
            · replace H := some_st H
              dsimp only [stp, sm] at H
              have hfin := fin_st H
              repeat refine mf1_LiftD3 ?_
              first | exact trivial | exact rfl
    · replace H := some_st H
      dsimp only [stp, sm] at H
      refine ⟨(s761.1, s761.2.1, s761.2.2.1, s761.2.2.2.1), ⟨H⟩, ⟨rfl⟩, ?_⟩
      repeat refine mo1_LiftD3 ?_
      first | exact trivial | exact rfl
  · intro v757 H
    refine if_st H (fun h907 H => ?_) (fun h907 H => ?_)
    · refine ob_ck H fun h908 H => ?_
      replace H := ix_in H
      refine ix_st (fun hc => by omega) H (fun h909 H => ?_) (fun H => ?_)
      · refine ob_ck H fun h910 H => ?_
        have hfin := fin_st H
        repeat refine mf1_LiftD3 ?_
        first | exact trivial | exact rfl
      · refine ix_st (fun hc => by omega) H (fun h911 H => ?_) (fun H => ?_)
        · refine ob_ck H fun h912 H => ?_
          have hfin := fin_st H
          repeat refine mf1_LiftD3 ?_
          first | exact trivial | exact rfl
        · exact trivial
    · refine ob_ck H fun h913 H => ?_
      have hfin := fin_st H
      repeat refine mf1_LiftD3 ?_
      first | exact trivial | exact rfl

/-- placard/placardref07.numbers -/
noncomputable def g59 (a0 : List Int) : Option (List Int × Bool) :=
  jn (α := _) (β := List Int × List Int) (fun k1144 =>
      (loopO (σ := List Int × List Int × Int) (ρ := (Unit) ⊕ (List Int × List Int)) (fun s1147 =>
          if s1147.2.2 < ((a0.length : Nat) : Int) then
            (
              ck (inR .i64 (((s1147.1.length : Nat) : Int) - 1)) <|
              jn (α := _) (β := Bool) (fun k1263 =>
                  ck (0 ≤ s1147.2.2 ∧ s1147.2.2 < ((a0.length : Nat) : Int)) <|
                  if (a0.getD s1147.2.2.toNat 0) = 59 then
                    k1263 (decide ((((s1147.1.length : Nat) : Int) - 1) = 0))
                  else
                    k1263 false
              ) (fun v1262 =>
                if v1262 = true then
                  (
                    ck ((s1147.1.length + 1) * 8 ≤ 140737488355328) <|
                    ck ((s1147.2.1.length + 1) * 8 ≤ 140737488355328) <|
                    ck (inR .i64 (s1147.2.2 + 1)) <|
                    some (.go ((s1147.1 ++ [0]), (s1147.2.1 ++ [0]), s1147.2.2 + 1))
                  )
                else
                  (
                    jn (α := _) (β := Bool) (fun k1284 =>
                        ck (0 ≤ s1147.2.2 ∧ s1147.2.2 < ((a0.length : Nat) : Int)) <|
                        if 48 ≤ (a0.getD s1147.2.2.toNat 0) then
                          (
                            ck (0 ≤ s1147.2.2 ∧ s1147.2.2 < ((a0.length : Nat) : Int)) <|
                            if (a0.getD s1147.2.2.toNat 0) ≤ 57 then
                              (
                                ck (0 ≤ ((s1147.1.length : Nat) : Int) - 1 ∧ ((s1147.1.length : Nat) : Int) - 1 < ((s1147.2.1.length : Nat) : Int)) <|
                                k1284 (decide ((s1147.2.1.getD (((s1147.1.length : Nat) : Int) - 1).toNat 0) < 4))
                              )
                            else
                              k1284 false
                          )
                        else
                          k1284 false
                    ) (fun v1283 =>
                      if v1283 = true then
                        (
                          ck (0 ≤ ((s1147.1.length : Nat) : Int) - 1 ∧ ((s1147.1.length : Nat) : Int) - 1 < ((s1147.1.length : Nat) : Int)) <|
                          ck (inR .i64 (10 * (s1147.1.getD (((s1147.1.length : Nat) : Int) - 1).toNat 0))) <|
                          ck (0 ≤ s1147.2.2 ∧ s1147.2.2 < ((a0.length : Nat) : Int)) <|
                          ck (inR .u8 ((a0.getD s1147.2.2.toNat 0) - 48)) <|
                          ck (inR .i64 ((a0.getD s1147.2.2.toNat 0) - 48)) <|
                          ck (inR .i64 ((10 * (s1147.1.getD (((s1147.1.length : Nat) : Int) - 1).toNat 0)) + ((a0.getD s1147.2.2.toNat 0) - 48))) <|
                          ck (0 ≤ ((s1147.1.length : Nat) : Int) - 1 ∧ ((s1147.1.length : Nat) : Int) - 1 < ((s1147.2.1.length : Nat) : Int)) <|
                          ck (inR .i64 ((s1147.2.1.getD (((s1147.1.length : Nat) : Int) - 1).toNat 0) + 1)) <|
                          ck (0 ≤ ((s1147.1.length : Nat) : Int) - 1 ∧ ((s1147.1.length : Nat) : Int) - 1 < ((s1147.1.length : Nat) : Int)) <|
                          ck (0 ≤ ((s1147.1.length : Nat) : Int) - 1 ∧ ((s1147.1.length : Nat) : Int) - 1 < ((s1147.2.1.length : Nat) : Int)) <|
                          ck (inR .i64 (s1147.2.2 + 1)) <|
                          some (.go ((s1147.1.set (((s1147.1.length : Nat) : Int) - 1).toNat ((10 * (s1147.1.getD (((s1147.1.length : Nat) : Int) - 1).toNat 0)) + ((a0.getD s1147.2.2.toNat 0) - 48))), (s1147.2.1.set (((s1147.1.length : Nat) : Int) - 1).toNat ((s1147.2.1.getD (((s1147.1.length : Nat) : Int) - 1).toNat 0) + 1)), s1147.2.2 + 1))
                        )
                      else
                        some (.out (.inl (())))
                    )
                  )
              )
            )
          else
            some (.out (.inr ((s1147.1, s1147.2.1))))
        ) ([0], [0], 0)).bind fun o1257 =>
      sm o1257 (fun o1312 =>
          some (([] : List Int), false)
        ) (fun o1313 =>
          k1144 (o1313.1, o1313.2)
        )
  ) (fun v1143 =>
    jn (α := _) (β := List Int) (fun k1368 =>
        (loopO (σ := List Int × Int) (ρ := List Int) (fun s1371 =>
            if s1371.2 < ((s1371.1.length : Nat) : Int) then
              (
                if s1371.2 < ((v1143.2.length : Nat) : Int) then
                  (
                    ck (0 ≤ s1371.2 ∧ s1371.2 < ((v1143.2.length : Nat) : Int)) <|
                    if (v1143.2.getD s1371.2.toNat 0) = 0 then
                      (
                        ck (0 ≤ s1371.2 ∧ s1371.2 < ((s1371.1.length : Nat) : Int)) <|
                        ck (inR .i64 (s1371.2 + 1)) <|
                        some (.go ((s1371.1.set s1371.2.toNat 1), s1371.2 + 1))
                      )
                    else
                      (
                        ck (inR .i64 (s1371.2 + 1)) <|
                        some (.go (s1371.1, s1371.2 + 1))
                      )
                  )
                else
                  some (.out s1371.1)
              )
            else
              some (.out s1371.1)
          ) (v1143.1, 0)).bind fun o1397 =>
          k1368 o1397
    ) (fun v1367 =>
      some (v1367, true)
    )
  )
noncomputable def k59 : Eng.CS := { f := 59, calm := false, more := 1, ι := (List Int) × (List Int × Bool), ok := fun i => g59 i.1 = some i.2, rds := fun _ => [], args := fun i => [.sl 1 i.1.length (ei .u8 i.1)], res := fun i => .tup [.own 0, bS i.2.2], L' := fun i => [(0, .arr 3 1 i.2.1.length (ei .i64 i.2.1))], rn := [(0, 0, 3, 1)] }
set_option maxRecDepth 8000 in
set_option maxHeartbeats 4000000 in
theorem k59_ok : CSOk Tryd.prog k59 := by
  refine R.cspec Tryd.func59 nm59 rfl ?_
  rintro ⟨a0, r⟩ hok q _ args hargs
  match args, hargs with
  | [_], hargs =>
  obtain ⟨⟨A0, cp0, rfl, hc0, _, hR0⟩, _⟩ := hargs
  refine ⟨envC [] false [(59, 9), (59, 11), (59, 12), (59, 17)], 6, envC_ok (css_nil), ?_⟩
  have H : Gives (g59 a0) (fun a => a = r) := ⟨r, hok, rfl⟩
  unfold g59 at H
  clear hok
  refine R.cut_fam H 17 [] [] (fun v1143 => [(4, .own 17), (5, .own 18)]) (fun v1143 => [(17, .arr 3 1 (v1143.1.length) (ei .i64 (v1143.1))), (18, .arr 3 1 (v1143.2.length) (ei .i64 (v1143.2)))]) [] 2 (fun H => ?_)
  refine And.intro ?_ ?_
  · refine R.loop_fam (bind_st H) [0] [] (fun _ s1147 => [(4, .own 7), (5, .own 8), (6, .v (.int .i64 (s1147.2.2)))]) (fun _ s1147 => [(7, .arr 3 1 (s1147.1.length) (ei .i64 (s1147.1))), (8, .arr 3 1 (s1147.2.1.length) (ei .i64 (s1147.2.1)))]) 2 (fun n1314 H => ?_)
    refine ⟨(n1314, _), ⟨H⟩, ⟨trivial⟩, ?_⟩
    repeat refine mo1_LiftD3 ?_
    rintro ⟨m0, s1147⟩ H _
    obtain ⟨m1148, hm0, H⟩ := IG_succ H
    dsimp only at hm0
    subst hm0
    try dsimp only at H
    refine if_st H (fun h1258 H => ?_) (fun h1258 H => ?_)
    · refine ob_ck H fun h1259 H => ?_
      refine R.cut_fam H 28 [0, 4, 5, 6, 7] [] (fun v1262 => [(20, bS v1262)]) (fun v1262 => []) [(7, .arr 3 1 (s1147.1.length) (ei .i64 (s1147.1))), (8, .arr 3 1 (s1147.2.1.length) (ei .i64 (s1147.2.1)))] 0 (fun H => ?_)
      refine And.intro ?_ ?_
      · refine ob_ix hR0 (fun h => ei0 h) H fun h1264 H => ?_
        refine ld_int (e := a0.getD s1147.2.2.toNat 0) (rd_get hR0 (ei_get (l := a0) (tn h1264))) ?_
        refine if_st H (fun h1265 H => ?_) (fun h1265 H => ?_)
        · refine ⟨(decide ((((s1147.1.length : Nat) : Int) - 1) = 0)), ⟨H⟩, ⟨rfl⟩, ?_⟩
          repeat refine mo1_LiftD3 ?_
          first | exact trivial | exact rfl
        · refine ⟨false, ⟨H⟩, ⟨rfl⟩, ?_⟩
          repeat refine mo1_LiftD3 ?_
          first | exact trivial | exact rfl
      · intro v1262 H
        refine if_st H (fun h1266 H => ?_) (fun h1266 H => ?_)
        · refine ob_app (by decide) (by first | exact ei_one | ((repeat (refine List.forall_mem_cons.2 ⟨rfl, ?_⟩)); intro y hy; cases hy; done) | (intro y hy; simp [ei, eb, es, ec] at hy; (first | (rcases hy with rfl | hy) | subst hy | skip); all_goals first | rfl | simp_all [Value.oneCell'])) H fun h1267 H => ?_
          intro n1268 zs1270 hn1269 hz1271
          obtain rfl : n1268 = (s1147.1 ++ [0]).length := hn1269.trans (by first | exact List.length_append.symm | (simp; done) | (simp; omega))
          obtain rfl : zs1270 = ei .i64 (s1147.1 ++ [0]) := by first | exact hz1271.trans (ei_app (xs := s1147.1) (ys := ([0]))).symm | (rw [hz1271, ei_vw]; first | exact ei_app.symm | exact (ei_app (xs := s1147.1)).symm) | (rw [hz1271]; simp [ei, eb, es, ec])
          refine ob_app (by decide) (by first | exact ei_one | ((repeat (refine List.forall_mem_cons.2 ⟨rfl, ?_⟩)); intro y hy; cases hy; done) | (intro y hy; simp [ei, eb, es, ec] at hy; (first | (rcases hy with rfl | hy) | subst hy | skip); all_goals first | rfl | simp_all [Value.oneCell'])) H fun h1272 H => ?_
          intro n1273 zs1275 hn1274 hz1276
          obtain rfl : n1273 = (s1147.2.1 ++ [0]).length := hn1274.trans (by first | exact List.length_append.symm | (simp; done) | (simp; omega))
          obtain rfl : zs1275 = ei .i64 (s1147.2.1 ++ [0]) := by first | exact hz1276.trans (ei_app (xs := s1147.2.1) (ys := ([0]))).symm | (rw [hz1276, ei_vw]; first | exact ei_app.symm | exact (ei_app (xs := s1147.2.1)).symm) | (rw [hz1276]; simp [ei, eb, es, ec])
          refine ob_ck H fun h1277 H => ?_
          replace H := some_st H
          refine ⟨(m1148, ((s1147.1 ++ [0]), (s1147.2.1 ++ [0]), s1147.2.2 + 1)), ⟨H, Nat.lt_succ_self _⟩, ⟨trivial⟩, ⟨rfl⟩, ?_⟩
          repeat refine mo1_LiftD3 ?_
          first | exact trivial | exact rfl
        · refine R.cut_fam H 49 [0, 4, 5, 6, 7] [] (fun v1283 => [(36, bS v1283)]) (fun v1283 => []) [(7, .arr 3 1 (s1147.1.length) (ei .i64 (s1147.1))), (8, .arr 3 1 (s1147.2.1.length) (ei .i64 (s1147.2.1)))] 0 (fun H => ?_)
          refine And.intro ?_ ?_
          · refine ob_ix hR0 (fun h => ei0 h) H fun h1285 H => ?_
            refine ld_int (e := a0.getD s1147.2.2.toNat 0) (rd_get hR0 (ei_get (l := a0) (tn h1285))) ?_
            refine if_st H (fun h1286 H => ?_) (fun h1286 H => ?_)
            · refine ob_ix hR0 (fun h => ei0 h) H fun h1287 H => ?_
              refine ld_int (e := a0.getD s1147.2.2.toNat 0) (rd_get hR0 (ei_get (l := a0) (tn h1287))) ?_
              refine if_st H (fun h1288 H => ?_) (fun h1288 H => ?_)
              · refine ob_ck H fun h1289 H => ?_
                refine ld_int (e := s1147.2.1.getD (((s1147.1.length : Nat) : Int) - 1).toNat 0) (own_get (ys := ei .i64 s1147.2.1) (by first | rfl | simp [ei, eb, es, ec]) (ei_get (l := s1147.2.1) (by first | exact tn h1289 | (have := tn h1289; simp at this ⊢; omega) | (have := tn h1289; simp; omega)))) ?_
                refine ⟨(decide ((s1147.2.1.getD (((s1147.1.length : Nat) : Int) - 1).toNat 0) < 4)), ⟨H⟩, ⟨rfl⟩, ?_⟩
                repeat refine mo1_LiftD3 ?_
                first | exact trivial | exact rfl
              · refine ⟨false, ⟨H⟩, ⟨rfl⟩, ?_⟩
                repeat refine mo1_LiftD3 ?_
                first | exact trivial | exact rfl
            · refine ⟨false, ⟨H⟩, ⟨rfl⟩, ?_⟩
              repeat refine mo1_LiftD3 ?_
              first | exact trivial | exact rfl
          · intro v1283 H
            refine if_st H (fun h1290 H => ?_) (fun h1290 H => ?_)
            · refine And.intro ⟨by kernel_rfl⟩ ?_
              refine ⟨(Pn.calm 0 (Pn.calm 1 (Pn.calm 2 (Pn.calm 3 (Pn.calm 4 (Pn.calm 5 (Pn.calm 6 (Pn.calm 7 (Pn.calm 8 (Pn.calm 9 (Pn.calm 10 (Pn.calm 11 (Pn.calm 12 (Pn.calm 13 (Pn.calm 14 (Pn.calm 15 (Pn.calm 16 (Pn.calm 17 (Pn.calm 18 (Pn.calm 19 (Pn.calm 20 (Pn.calm 21 (Pn.eff 22 [21, 15, 0, 1, 4, 5, 6, 7, 8, 9, 10, 11, 12, 13, 14, 19, 18, 16, 17] (Pn.calm 23 (Pn.eff 24 [23, 20, 22, 0, 1, 2, 3, 4, 5, 6, 7, 8, 9, 10, 11, 12, 13, 14, 15, 16, 17, 18, 19, 21] Pn.done Pn.no)) Pn.no))))))))))))))))))))))), ⟨by kernel_rfl⟩, ?_⟩
              refine ob_ck H fun h1291 H => ?_
              refine ld_int (e := s1147.1.getD (((s1147.1.length : Nat) : Int) - 1).toNat 0) (own_get (ys := ei .i64 s1147.1) (by first | rfl | simp [ei, eb, es, ec]) (ei_get (l := s1147.1) (by first | exact tn h1291 | (have := tn h1291; simp at this ⊢; omega) | (have := tn h1291; simp; omega)))) ?_
              refine ob_ck H fun h1292 H => ?_
              refine ob_ix hR0 (fun h => ei0 h) H fun h1293 H => ?_
              refine ld_int (e := a0.getD s1147.2.2.toNat 0) (rd_get hR0 (ei_get (l := a0) (tn h1293))) ?_
              refine ob_ck H fun h1294 H => ?_
              refine ob_ck H fun h1295 H => ?_
              refine ob_ck H fun h1296 H => ?_
              refine ob_ck H fun h1297 H => ?_
              refine ld_int (e := s1147.2.1.getD (((s1147.1.length : Nat) : Int) - 1).toNat 0) (own_get (ys := ei .i64 s1147.2.1) (by first | rfl | simp [ei, eb, es, ec]) (ei_get (l := s1147.2.1) (by first | exact tn h1297 | (have := tn h1297; simp at this ⊢; omega) | (have := tn h1297; simp; omega)))) ?_
              refine ob_ck H fun h1298 H => ?_
              refine ob_ck H fun h1299 H => ?_
              refine And.intro ?_ trivial
              refine And.intro ⟨by first | (have := tn h1299; simp [ei, eb, es, ec] at this ⊢; omega) | (have := tn h1299; simp [ei, eb, es, ec]; omega)⟩ ?_
              intro n1300 zs1302 hn1301 hz1303
              subst hn1301
              have hl1304 : (s1147.1.set (((s1147.1.length : Nat) : Int) - 1).toNat ((10 * (s1147.1.getD (((s1147.1.length : Nat) : Int) - 1).toNat 0)) + ((a0.getD s1147.2.2.toNat 0) - 48))).length = s1147.1.length := List.length_set
              obtain rfl : zs1302 = ei .i64 (s1147.1.set (((s1147.1.length : Nat) : Int) - 1).toNat ((10 * (s1147.1.getD (((s1147.1.length : Nat) : Int) - 1).toNat 0)) + ((a0.getD s1147.2.2.toNat 0) - 48))) := hz1303.trans ei_set.symm
              refine And.intro ⟨fun _ _ _ h => h⟩ ?_
              refine ob_ck H fun h1305 H => ?_
              refine And.intro ?_ trivial
              refine And.intro ⟨by first | (have := tn h1305; simp [ei, eb, es, ec] at this ⊢; omega) | (have := tn h1305; simp [ei, eb, es, ec]; omega)⟩ ?_
              intro n1306 zs1308 hn1307 hz1309
              subst hn1307
              have hl1310 : (s1147.2.1.set (((s1147.1.length : Nat) : Int) - 1).toNat ((s1147.2.1.getD (((s1147.1.length : Nat) : Int) - 1).toNat 0) + 1)).length = s1147.2.1.length := List.length_set
              obtain rfl : zs1308 = ei .i64 (s1147.2.1.set (((s1147.1.length : Nat) : Int) - 1).toNat ((s1147.2.1.getD (((s1147.1.length : Nat) : Int) - 1).toNat 0) + 1)) := hz1309.trans ei_set.symm
              refine And.intro ⟨fun _ _ _ h => h⟩ ?_
              refine ob_ck H fun h1311 H => ?_
              replace H := some_st H
              refine ⟨(m1148, ((s1147.1.set (((s1147.1.length : Nat) : Int) - 1).toNat ((10 * (s1147.1.getD (((s1147.1.length : Nat) : Int) - 1).toNat 0)) + ((a0.getD s1147.2.2.toNat 0) - 48))), (s1147.2.1.set (((s1147.1.length : Nat) : Int) - 1).toNat ((s1147.2.1.getD (((s1147.1.length : Nat) : Int) - 1).toNat 0) + 1)), s1147.2.2 + 1)), ⟨H, Nat.lt_succ_self _⟩, ⟨trivial⟩, ⟨rfl⟩, ?_⟩
              repeat refine mo1_LiftD3 ?_
              first | exact trivial | exact rfl
            · replace H := some_st H
              dsimp only [stp, sm] at H
              have hfin := fin_st H
              repeat refine mf1_LiftD3 ?_
              first | exact trivial | exact rfl
    · replace H := some_st H
      dsimp only [stp, sm] at H
      refine ⟨(s1147.1, s1147.2.1), ⟨H⟩, ⟨rfl⟩, ?_⟩
      repeat refine mo1_LiftD3 ?_
      first | exact trivial | exact rfl
  · intro v1143 H
    refine R.cut_fam H 32 [4] [] (fun v1367 => []) (fun v1367 => [(17, .arr 3 1 (v1367.length) (ei .i64 (v1367)))]) [(18, .arr 3 1 (v1143.2.length) (ei .i64 (v1143.2)))] 0 (fun H => ?_)
    refine And.intro ?_ ?_
    · refine R.loop_fam (bind_st H) [4, 5] [] (fun _ s1371 => [(8, .v (.int .i64 (s1371.2)))]) (fun _ s1371 => [(17, .arr 3 1 (s1371.1.length) (ei .i64 (s1371.1)))]) 0 (fun n1410 H => ?_)
      refine ⟨(n1410, _), ⟨H⟩, ⟨trivial⟩, ?_⟩
      repeat refine mo1_LiftD3 ?_
      rintro ⟨m0, s1371⟩ H _
      obtain ⟨m1372, hm0, H⟩ := IG_succ H
      dsimp only at hm0
      subst hm0
      try dsimp only at H
      refine if_st H (fun h1398 H => ?_) (fun h1398 H => ?_)
      · refine if_st H (fun h1399 H => ?_) (fun h1399 H => ?_)
        · refine ob_ck H fun h1400 H => ?_
          refine ld_int (e := v1143.2.getD s1371.2.toNat 0) (own_get (ys := ei .i64 v1143.2) (by first | rfl | simp [ei, eb, es, ec]) (ei_get (l := v1143.2) (by first | exact tn h1400 | (have := tn h1400; simp at this ⊢; omega) | (have := tn h1400; simp; omega)))) ?_
          refine if_st H (fun h1401 H => ?_) (fun h1401 H => ?_)
          · refine ob_ck H fun h1402 H => ?_
            refine And.intro ⟨by first | (have := tn h1402; simp [ei, eb, es, ec] at this ⊢; omega) | (have := tn h1402; simp [ei, eb, es, ec]; omega)⟩ ?_
            intro n1403 zs1405 hn1404 hz1406
            subst hn1404
            have hl1407 : (s1371.1.set s1371.2.toNat 1).length = s1371.1.length := List.length_set
            obtain rfl : zs1405 = ei .i64 (s1371.1.set s1371.2.toNat 1) := hz1406.trans ei_set.symm
            refine ob_ck H fun h1408 H => ?_
            replace H := some_st H
            refine ⟨(m1372, ((s1371.1.set s1371.2.toNat 1), s1371.2 + 1)), ⟨H, Nat.lt_succ_self _⟩, ⟨trivial⟩, ⟨rfl⟩, ?_⟩
            repeat refine mo1_LiftD3 ?_
            first | exact trivial | exact rfl
          · refine ob_ck H fun h1409 H => ?_
            replace H := some_st H
            refine ⟨(m1372, (s1371.1, s1371.2 + 1)), ⟨H, Nat.lt_succ_self _⟩, ⟨trivial⟩, ⟨rfl⟩, ?_⟩
            repeat refine mo1_LiftD3 ?_
            first | exact trivial | exact rfl
        · replace H := some_st H
          dsimp only [stp, sm] at H
          refine ⟨s1371.1, ⟨H⟩, ⟨rfl⟩, ?_⟩
          repeat refine mo1_LiftD3 ?_
          first | exact trivial | exact rfl
      · replace H := some_st H
        dsimp only [stp, sm] at H
        refine ⟨s1371.1, ⟨H⟩, ⟨rfl⟩, ?_⟩
        repeat refine mo1_LiftD3 ?_
        first | exact trivial | exact rfl
    · intro v1367 H
      have hfin := fin_st H
      repeat refine mf1_LiftD3 ?_
      first | exact trivial | exact rfl

/-- placard/keyin.obeyed -/
noncomputable def g54 (a0 : List Int) (a1 : Int) : Option ((Int × ByteArray × Int × Bool × Bool × Bool) × Bool) :=
  if a1 = 90 then
    (
      (g67 (4, (⟨#[]⟩ : ByteArray), 0, false, false, false) (decide (((a0.length : Nat) : Int) = 0))).bind fun v1415 =>
      some ((v1415.1.1, v1415.1.2.1, v1415.1.2.2.1, v1415.1.2.2.2.1, v1415.1.2.2.2.2.1, v1415.1.2.2.2.2.2), v1415.2)
    )
  else
    (
      (g68 a0).bind fun v1417 =>
      if ¬ (v1417.2.2 = true) then
        some ((0, (⟨#[]⟩ : ByteArray), 0, false, false, false), false)
      else
        (
          jn (α := _) (β := Int × ByteArray × Int × Bool × Bool × Bool × Bool) (fun k1458 =>
              if a1 = 126 then
                (
                  ck (0 ≤ (0 : Int) ∧ 0 < ((2 : Nat) : Int)) <|
                  if 0 = ((0 : Nat) : Int) then
                    (
                      (g69 v1417.1.1).bind fun v1462 =>
                      k1458 (v1462.1.1, v1462.1.2.1, v1462.1.2.2.1, v1462.1.2.2.2.1, v1462.1.2.2.2.2.1, v1462.1.2.2.2.2.2, v1462.2)
                    )
                  else
                    (
                      if 0 = ((1 : Nat) : Int) then
                        (
                          (g69 v1417.1.2).bind fun v1465 =>
                          k1458 (v1465.1.1, v1465.1.2.1, v1465.1.2.2.1, v1465.1.2.2.2.1, v1465.1.2.2.2.2.1, v1465.1.2.2.2.2.2, v1465.2)
                        )
                      else
                        none
                    )
                )
              else
                (
                  (g55 a1).bind fun v1467 =>
                  if v1467.2 = true then
                    (
                      ck (0 ≤ (0 : Int) ∧ 0 < ((2 : Nat) : Int)) <|
                      if 0 = ((0 : Nat) : Int) then
                        (
                          if v1417.1.1 = 1 then
                            (
                              if ¬ v1467.1.1 = 18 then
                                k1458 (v1467.1.1, v1467.1.2.1, v1467.1.2.2.1, v1467.1.2.2.2.1, v1467.1.2.2.2.2.1, v1467.1.2.2.2.2.2, true)
                              else
                                k1458 (v1467.1.1, v1467.1.2.1, v1467.1.2.2.1, v1467.1.2.2.2.1, v1467.1.2.2.2.2.1, v1467.1.2.2.2.2.2, (decide (v1417.2.1 = 2)))
                            )
                          else
                            k1458 (v1467.1.1, v1467.1.2.1, v1467.1.2.2.1, v1467.1.2.2.2.1, v1467.1.2.2.2.2.1, v1467.1.2.2.2.2.2, false)
                        )
                      else
                        (
                          if 0 = ((1 : Nat) : Int) then
                            (
                              if v1417.1.2 = 1 then
                                (
                                  if ¬ v1467.1.1 = 18 then
                                    k1458 (v1467.1.1, v1467.1.2.1, v1467.1.2.2.1, v1467.1.2.2.2.1, v1467.1.2.2.2.2.1, v1467.1.2.2.2.2.2, true)
                                  else
                                    k1458 (v1467.1.1, v1467.1.2.1, v1467.1.2.2.1, v1467.1.2.2.2.1, v1467.1.2.2.2.2.1, v1467.1.2.2.2.2.2, (decide (v1417.2.1 = 2)))
                                )
                              else
                                k1458 (v1467.1.1, v1467.1.2.1, v1467.1.2.2.1, v1467.1.2.2.2.1, v1467.1.2.2.2.2.1, v1467.1.2.2.2.2.2, false)
                            )
                          else
                            none
                        )
                    )
                  else
                    k1458 (v1467.1.1, v1467.1.2.1, v1467.1.2.2.1, v1467.1.2.2.2.1, v1467.1.2.2.2.2.1, v1467.1.2.2.2.2.2, false)
                )
          ) (fun v1457 =>
            if ¬ (v1457.2.2.2.2.2.2 = true) then
              some ((0, (⟨#[]⟩ : ByteArray), 0, false, false, false), false)
            else
              (
                if v1417.2.1 = 2 then
                  (
                    ck (0 ≤ (1 : Int) ∧ 1 < ((2 : Nat) : Int)) <|
                    if 1 = ((0 : Nat) : Int) then
                      (
                        (g70 (v1457.1, v1457.2.1, v1457.2.2.1, v1457.2.2.2.1, v1457.2.2.2.2.1, v1457.2.2.2.2.2.1) v1417.1.1).bind fun v1490 =>
                        some ((v1490.1.1, v1490.1.2.1, v1490.1.2.2.1, v1490.1.2.2.2.1, v1490.1.2.2.2.2.1, v1490.1.2.2.2.2.2), v1490.2)
                      )
                    else
                      (
                        if 1 = ((1 : Nat) : Int) then
                          (
                            (g70 (v1457.1, v1457.2.1, v1457.2.2.1, v1457.2.2.2.1, v1457.2.2.2.2.1, v1457.2.2.2.2.2.1) v1417.1.2).bind fun v1493 =>
                            some ((v1493.1.1, v1493.1.2.1, v1493.1.2.2.1, v1493.1.2.2.2.1, v1493.1.2.2.2.2.1, v1493.1.2.2.2.2.2), v1493.2)
                          )
                        else
                          none
                      )
                  )
                else
                  some ((v1457.1, v1457.2.1, v1457.2.2.1, v1457.2.2.2.1, v1457.2.2.2.2.1, v1457.2.2.2.2.2.1), true)
              )
          )
        )
    )
noncomputable def k54 : Eng.CS := { f := 54, calm := true, more := 0, ι := (List Int) × Int × ((Int × ByteArray × Int × Bool × Bool × Bool) × Bool), ok := fun i => g54 i.1 i.2.1 = some i.2.2, rds := fun _ => [], args := fun i => [.sl 1 i.1.length (ei .u8 i.1), .w (.v (.int .u8 (i.2.1)))], res := fun i => .tup [.agg [.v (.int .i64 (i.2.2.1.1)), .v (.string (i.2.2.1.2.1)), .v (.int .i64 (i.2.2.1.2.2.1)), bS i.2.2.1.2.2.2.1, bS i.2.2.1.2.2.2.2.1, bS i.2.2.1.2.2.2.2.2], bS i.2.2.2] }
set_option maxRecDepth 8000 in
set_option maxHeartbeats 4000000 in
theorem k54_ok : CalmOk Tryd.prog k54 := by
  refine R.calmspec Tryd.func54 nm54 rfl ?_
  rintro ⟨a0, a1, r⟩ hok q _ args hargs
  match args, hargs with
  | [_, _], hargs =>
  obtain ⟨⟨A0, cp0, rfl, hc0, _, hR0⟩, rfl, _⟩ := hargs
  refine ⟨envC [k55, k67, k68, k69, k70] false [(54, 11)], 6, envC_ok (css_cons ⟨fun _ => k55_ok, fun h => (by cases h)⟩ (css_cons ⟨fun _ => k67_ok, fun h => (by cases h)⟩ (css_cons ⟨fun _ => k68_ok, fun h => (by cases h)⟩ (css_cons ⟨fun _ => k69_ok, fun h => (by cases h)⟩ (css_cons ⟨fun _ => k70_ok, fun h => (by cases h)⟩ (css_nil)))))), rfl, (by intro x hx; simp only [List.mem_cons, List.not_mem_nil, or_false] at hx; rcases hx with rfl | rfl <;> rfl), ?_⟩
  have H : Gives (g54 a0 a1) (fun a => a = r) := ⟨r, hok, rfl⟩
  unfold g54 at H
  clear hok
  refine if_st H (fun h1414 H => ?_) (fun h1414 H => ?_)
  · obtain ⟨v1415, hv1416, H⟩ := call_st H
    refine ⟨((4, (⟨#[]⟩ : ByteArray), 0, false, false, false), (decide (((a0.length : Nat) : Int) = 0)), v1415), ⟨hv1416⟩, ⟨trivial⟩, ?_⟩
    refine mo1_LiftD3 ?_
    refine mo1_LiftD3 ?_
    refine mo1_LiftD3 ?_
    refine mo1_LiftD3 ?_
    refine mo1_LiftD3 ?_
    refine mo1_LiftD3 ?_
    refine mo1_LiftD3 ?_
    have hfin := fin_st H
    repeat refine mf1_LiftD3 ?_
    first | exact trivial | exact rfl
  · obtain ⟨v1417, hv1418, H⟩ := call_st H
    refine ⟨(a0, v1417), ⟨hv1418⟩, ⟨trivial⟩, ?_⟩
    refine And.intro ⟨rfl, hc0, ei_len.trans ((show _ = _ from rfl).trans (Nat.mul_one _).symm), hR0⟩ ?_
    refine if_st H (fun h1420 H => ?_) (fun h1420 H => ?_)
    · have hfin := fin_st H
      repeat refine mf1_LiftD3 ?_
      first | exact trivial | exact rfl
    · refine R.cut_fam H 43 [4, 6, 7, 9] [] (fun v1457 => [(8, bS v1457.2.2.2.2.2.2)]) (fun v1457 => [(16, .cells 51 [.v (.int .i64 (v1457.1)), .v (.string (v1457.2.1)), .v (.int .i64 (v1457.2.2.1)), bS v1457.2.2.2.1, bS v1457.2.2.2.2.1, bS v1457.2.2.2.2.2.1])]) [(0, .cells 51 [.v (.int .i64 (0)), .v (.string ((⟨#[]⟩ : ByteArray))), .v (.int .i64 (0)), .bb false, .bb false, .bb false]), (10, .cells 108 [.v (.int .i64 (v1417.1.1)), .v (.int .i64 (v1417.1.2))])] 0 (fun H => ?_)
      refine And.intro ?_ ?_
      · refine if_st H (fun h1459 H => ?_) (fun h1459 H => ?_)
        · refine ob_ck H fun h1460 H => ?_
          replace H := ix_in H
          refine ix_st (fun hc => by omega) H (fun h1461 H => ?_) (fun H => ?_)
          · obtain ⟨v1462, hv1463, H⟩ := call_st H
            refine ⟨(v1417.1.1, v1462), ⟨hv1463⟩, ⟨trivial⟩, ?_⟩
            refine And.intro ⟨rfl⟩ ?_
            refine ⟨(v1462.1.1, v1462.1.2.1, v1462.1.2.2.1, v1462.1.2.2.2.1, v1462.1.2.2.2.2.1, v1462.1.2.2.2.2.2, v1462.2), ⟨H⟩, ⟨rfl⟩, ?_⟩
            repeat refine mo1_LiftD3 ?_
            first | exact trivial | exact rfl
          · refine ix_st (fun hc => by omega) H (fun h1464 H => ?_) (fun H => ?_)
            · obtain ⟨v1465, hv1466, H⟩ := call_st H
              refine ⟨(v1417.1.2, v1465), ⟨hv1466⟩, ⟨trivial⟩, ?_⟩
              refine And.intro ⟨rfl⟩ ?_
              refine ⟨(v1465.1.1, v1465.1.2.1, v1465.1.2.2.1, v1465.1.2.2.2.1, v1465.1.2.2.2.2.1, v1465.1.2.2.2.2.2, v1465.2), ⟨H⟩, ⟨rfl⟩, ?_⟩
              repeat refine mo1_LiftD3 ?_
              first | exact trivial | exact rfl
            · exact trivial
        · obtain ⟨v1467, hv1468, H⟩ := call_st H
          refine ⟨(a1, v1467), ⟨hv1468⟩, ⟨trivial⟩, ?_⟩
          refine And.intro ⟨rfl⟩ ?_
          refine if_st H (fun h1469 H => ?_) (fun h1469 H => ?_)
          · refine ob_ck H fun h1470 H => ?_
            replace H := ix_in H
            refine ix_st (fun hc => by omega) H (fun h1471 H => ?_) (fun H => ?_)
            · refine if_st H (fun h1472 H => ?_) (fun h1472 H => ?_)
              · refine if_st H (fun h1473 H => ?_) (fun h1473 H => ?_)
                · refine ⟨(v1467.1.1, v1467.1.2.1, v1467.1.2.2.1, v1467.1.2.2.2.1, v1467.1.2.2.2.2.1, v1467.1.2.2.2.2.2, true), ⟨H⟩, ⟨rfl⟩, ?_⟩
                  repeat refine mo1_LiftD3 ?_
                  first | exact trivial | exact rfl
                · refine ⟨(v1467.1.1, v1467.1.2.1, v1467.1.2.2.1, v1467.1.2.2.2.1, v1467.1.2.2.2.2.1, v1467.1.2.2.2.2.2, (decide (v1417.2.1 = 2))), ⟨H⟩, ⟨rfl⟩, ?_⟩
                  repeat refine mo1_LiftD3 ?_
                  first | exact trivial | exact rfl
              · refine ⟨(v1467.1.1, v1467.1.2.1, v1467.1.2.2.1, v1467.1.2.2.2.1, v1467.1.2.2.2.2.1, v1467.1.2.2.2.2.2, false), ⟨H⟩, ⟨rfl⟩, ?_⟩
                repeat refine mo1_LiftD3 ?_
                first | exact trivial | exact rfl
            · refine ix_st (fun hc => by omega) H (fun h1474 H => ?_) (fun H => ?_)
              · refine if_st H (fun h1475 H => ?_) (fun h1475 H => ?_)
                · refine if_st H (fun h1476 H => ?_) (fun h1476 H => ?_)
                  · refine ⟨(v1467.1.1, v1467.1.2.1, v1467.1.2.2.1, v1467.1.2.2.2.1, v1467.1.2.2.2.2.1, v1467.1.2.2.2.2.2, true), ⟨H⟩, ⟨rfl⟩, ?_⟩
                    repeat refine mo1_LiftD3 ?_
                    first | exact trivial | exact rfl
                  · refine ⟨(v1467.1.1, v1467.1.2.1, v1467.1.2.2.1, v1467.1.2.2.2.1, v1467.1.2.2.2.2.1, v1467.1.2.2.2.2.2, (decide (v1417.2.1 = 2))), ⟨H⟩, ⟨rfl⟩, ?_⟩
                    repeat refine mo1_LiftD3 ?_
                    first | exact trivial | exact rfl
                · refine ⟨(v1467.1.1, v1467.1.2.1, v1467.1.2.2.1, v1467.1.2.2.2.1, v1467.1.2.2.2.2.1, v1467.1.2.2.2.2.2, false), ⟨H⟩, ⟨rfl⟩, ?_⟩
                  repeat refine mo1_LiftD3 ?_
                  first | exact trivial | exact rfl
              · exact trivial
          · refine ⟨(v1467.1.1, v1467.1.2.1, v1467.1.2.2.1, v1467.1.2.2.2.1, v1467.1.2.2.2.2.1, v1467.1.2.2.2.2.2, false), ⟨H⟩, ⟨rfl⟩, ?_⟩
            repeat refine mo1_LiftD3 ?_
            first | exact trivial | exact rfl
      · intro v1457 H
        refine if_st H (fun h1478 H => ?_) (fun h1478 H => ?_)
        · have hfin := fin_st H
          repeat refine mf1_LiftD3 ?_
          first | exact trivial | exact rfl
        · refine if_st H (fun h1487 H => ?_) (fun h1487 H => ?_)
          · refine ob_ck H fun h1488 H => ?_
            replace H := ix_in H
            refine ix_st (fun hc => by omega) H (fun h1489 H => ?_) (fun H => ?_)
            · obtain ⟨v1490, hv1491, H⟩ := call_st H
              refine ⟨((v1457.1, v1457.2.1, v1457.2.2.1, v1457.2.2.2.1, v1457.2.2.2.2.1, v1457.2.2.2.2.2.1), v1417.1.1, v1490), ⟨hv1491⟩, ⟨trivial⟩, ?_⟩
              refine mo1_LiftD3 ?_
              refine mo1_LiftD3 ?_
              refine mo1_LiftD3 ?_
              refine mo1_LiftD3 ?_
              refine mo1_LiftD3 ?_
              refine mo1_LiftD3 ?_
              refine And.intro ⟨rfl⟩ ?_
              have hfin := fin_st H
              repeat refine mf1_LiftD3 ?_
              first | exact trivial | exact rfl
            · refine ix_st (fun hc => by omega) H (fun h1492 H => ?_) (fun H => ?_)
              · obtain ⟨v1493, hv1494, H⟩ := call_st H
                refine ⟨((v1457.1, v1457.2.1, v1457.2.2.1, v1457.2.2.2.1, v1457.2.2.2.2.1, v1457.2.2.2.2.2.1), v1417.1.2, v1493), ⟨hv1494⟩, ⟨trivial⟩, ?_⟩
                refine mo1_LiftD3 ?_
                refine mo1_LiftD3 ?_
                refine mo1_LiftD3 ?_
                refine mo1_LiftD3 ?_
                refine mo1_LiftD3 ?_
                refine mo1_LiftD3 ?_
                refine And.intro ⟨rfl⟩ ?_
                have hfin := fin_st H
                repeat refine mf1_LiftD3 ?_
                first | exact trivial | exact rfl
              · exact trivial
          · have hfin := fin_st H
            repeat refine mf1_LiftD3 ?_
            first | exact trivial | exact rfl

/-- placard/placardref07.sequence -/
noncomputable def g48 (a0 : List Int) (a1 : Int) : Option ((Int × ByteArray × Int × Bool × Bool × Bool) × Bool) :=
  (g59 a0).bind fun v1495 =>
  if ¬ (v1495.2 = true) then
    some ((0, (⟨#[]⟩ : ByteArray), 0, false, false, false), false)
  else
    (
      jn (α := _) (β := Int × ByteArray × Int × Bool × Bool × Bool × Bool) (fun k1539 =>
          if a1 = 90 then
            some ((4, (⟨#[]⟩ : ByteArray), 0, false, false, false), (decide (((a0.length : Nat) : Int) = 0)))
          else
            (
              if a1 = 126 then
                (
                  ck (0 ≤ (0 : Int) ∧ 0 < ((v1495.1.length : Nat) : Int)) <|
                  (g60 (v1495.1.getD (0 : Int).toNat 0)).bind fun v1543 =>
                  k1539 (v1543.1.1, v1543.1.2.1, v1543.1.2.2.1, v1543.1.2.2.2.1, v1543.1.2.2.2.2.1, v1543.1.2.2.2.2.2, v1543.2)
                )
              else
                (
                  jn (α := _) (β := Bool) (fun k1547 =>
                      if 80 ≤ a1 then
                        k1547 (decide (a1 ≤ 83))
                      else
                        k1547 false
                  ) (fun v1546 =>
                    if v1546 = true then
                      (
                        (g37 a1).bind fun v1550 =>
                        if v1550.2 = true then
                          (
                            if ((v1495.1.length : Nat) : Int) = 2 then
                              (
                                ck (0 ≤ (0 : Int) ∧ 0 < ((v1495.1.length : Nat) : Int)) <|
                                k1539 (v1550.1.1, v1550.1.2.1, v1550.1.2.2.1, v1550.1.2.2.2.1, v1550.1.2.2.2.2.1, v1550.1.2.2.2.2.2, (decide ((v1495.1.getD (0 : Int).toNat 0) = 1)))
                              )
                            else
                              k1539 (v1550.1.1, v1550.1.2.1, v1550.1.2.2.1, v1550.1.2.2.2.1, v1550.1.2.2.2.2.1, v1550.1.2.2.2.2.2, false)
                          )
                        else
                          k1539 (v1550.1.1, v1550.1.2.1, v1550.1.2.2.1, v1550.1.2.2.2.1, v1550.1.2.2.2.2.1, v1550.1.2.2.2.2.2, false)
                      )
                    else
                      (
                        (g37 a1).bind fun v1555 =>
                        if v1555.2 = true then
                          (
                            ck (0 ≤ (0 : Int) ∧ 0 < ((v1495.1.length : Nat) : Int)) <|
                            k1539 (v1555.1.1, v1555.1.2.1, v1555.1.2.2.1, v1555.1.2.2.2.1, v1555.1.2.2.2.2.1, v1555.1.2.2.2.2.2, (decide ((v1495.1.getD (0 : Int).toNat 0) = 1)))
                          )
                        else
                          k1539 (v1555.1.1, v1555.1.2.1, v1555.1.2.2.1, v1555.1.2.2.2.1, v1555.1.2.2.2.2.1, v1555.1.2.2.2.2.2, false)
                      )
                  )
                )
            )
      ) (fun v1538 =>
        if ¬ (v1538.2.2.2.2.2.2 = true) then
          some ((0, (⟨#[]⟩ : ByteArray), 0, false, false, false), false)
        else
          (
            if ((v1495.1.length : Nat) : Int) = 2 then
              (
                ck (0 ≤ (1 : Int) ∧ 1 < ((v1495.1.length : Nat) : Int)) <|
                ck (inR .i64 ((v1495.1.getD (1 : Int).toNat 0) - 1)) <|
                if ((v1495.1.getD (1 : Int).toNat 0) - 1) < 0 then
                  some ((0, (⟨#[]⟩ : ByteArray), 0, false, false, false), false)
                else
                  (
                    if 7 < ((v1495.1.getD (1 : Int).toNat 0) - 1) then
                      some ((0, (⟨#[]⟩ : ByteArray), 0, false, false, false), false)
                    else
                      (
                        ck (inR .i64 (Int.tdiv ((v1495.1.getD (1 : Int).toNat 0) - 1) 2)) <|
                        ck (inR .i64 (Int.tdiv ((v1495.1.getD (1 : Int).toNat 0) - 1) 4)) <|
                        some ((v1538.1, v1538.2.1, v1538.2.2.1, (decide ((Int.tmod (Int.tdiv ((v1495.1.getD (1 : Int).toNat 0) - 1) 2) 2) = 1)), (decide ((Int.tmod ((v1495.1.getD (1 : Int).toNat 0) - 1) 2) = 1)), (decide ((Int.tdiv ((v1495.1.getD (1 : Int).toNat 0) - 1) 4) = 1))), true)
                      )
                  )
              )
            else
              some ((v1538.1, v1538.2.1, v1538.2.2.1, v1538.2.2.2.1, v1538.2.2.2.2.1, v1538.2.2.2.2.2.1), true)
          )
      )
    )
noncomputable def k48 : Eng.CS := { f := 48, calm := true, more := 0, ι := (List Int) × Int × ((Int × ByteArray × Int × Bool × Bool × Bool) × Bool), ok := fun i => g48 i.1 i.2.1 = some i.2.2, rds := fun _ => [], args := fun i => [.sl 1 i.1.length (ei .u8 i.1), .w (.v (.int .u8 (i.2.1)))], res := fun i => .tup [.agg [.v (.int .i64 (i.2.2.1.1)), .v (.string (i.2.2.1.2.1)), .v (.int .i64 (i.2.2.1.2.2.1)), bS i.2.2.1.2.2.2.1, bS i.2.2.1.2.2.2.2.1, bS i.2.2.1.2.2.2.2.2], bS i.2.2.2] }
set_option maxRecDepth 8000 in
set_option maxHeartbeats 4000000 in
theorem k48_ok : CalmOk Tryd.prog k48 := by
  refine R.calmspec Tryd.func48 nm48 rfl ?_
  rintro ⟨a0, a1, r⟩ hok q _ args hargs
  match args, hargs with
  | [_, _], hargs =>
  obtain ⟨⟨A0, cp0, rfl, hc0, _, hR0⟩, rfl, _⟩ := hargs
  refine ⟨envC [k37, k59, k60] false [(48, 12), (48, 14)], 6, envC_ok (css_cons ⟨fun _ => k37_ok, fun h => (by cases h)⟩ (css_cons ⟨fun h => (by cases h), fun _ => k59_ok⟩ (css_cons ⟨fun _ => k60_ok, fun h => (by cases h)⟩ (css_nil)))), rfl, (by intro x hx; simp only [List.mem_cons, List.not_mem_nil, or_false] at hx; rcases hx with rfl | rfl <;> rfl), ?_⟩
  have H : Gives (g48 a0 a1) (fun a => a = r) := ⟨r, hok, rfl⟩
  unfold g48 at H
  clear hok
  obtain ⟨v1495, hv1496, H⟩ := call_st H
  refine ⟨(a0, v1495), ⟨hv1496⟩, ⟨trivial⟩, ?_⟩
  refine And.intro ⟨rfl, hc0, ei_len.trans ((show _ = _ from rfl).trans (Nat.mul_one _).symm), hR0⟩ ?_
  refine if_st H (fun h1498 H => ?_) (fun h1498 H => ?_)
  · have hfin := fin_st H
    repeat refine mf1_LiftD3 ?_
    first | exact trivial | exact rfl
  · refine R.cut_fam H 48 [4, 6, 8] [] (fun v1538 => [(7, bS v1538.2.2.2.2.2.2)]) (fun v1538 => [(12, .cells 51 [.v (.int .i64 (v1538.1)), .v (.string (v1538.2.1)), .v (.int .i64 (v1538.2.2.1)), bS v1538.2.2.2.1, bS v1538.2.2.2.2.1, bS v1538.2.2.2.2.2.1])]) [(0, .cells 51 [.v (.int .i64 (0)), .v (.string ((⟨#[]⟩ : ByteArray))), .v (.int .i64 (0)), .bb false, .bb false, .bb false]), (9, .arr 3 1 (v1495.1.length) (ei .i64 (v1495.1)))] 0 (fun H => ?_)
    refine And.intro ?_ ?_
    · refine if_st H (fun h1540 H => ?_) (fun h1540 H => ?_)
      · have hfin := fin_st H
        repeat refine mf1_LiftD3 ?_
        first | exact trivial | exact rfl
      · refine if_st H (fun h1541 H => ?_) (fun h1541 H => ?_)
        · refine ob_ck H fun h1542 H => ?_
          refine ld_int (e := v1495.1.getD (0 : Int).toNat 0) (own_get (ys := ei .i64 v1495.1) (by first | rfl | simp [ei, eb, es, ec]) (ei_get (l := v1495.1) (by first | exact tn h1542 | (have := tn h1542; simp at this ⊢; omega) | (have := tn h1542; simp; omega)))) ?_
          obtain ⟨v1543, hv1544, H⟩ := call_st H
          refine ⟨(v1495.1.getD (0 : Int).toNat 0, v1543), ⟨hv1544⟩, ⟨trivial⟩, ?_⟩
          refine And.intro ⟨rfl⟩ ?_
          refine ⟨(v1543.1.1, v1543.1.2.1, v1543.1.2.2.1, v1543.1.2.2.2.1, v1543.1.2.2.2.2.1, v1543.1.2.2.2.2.2, v1543.2), ⟨H⟩, ⟨rfl⟩, ?_⟩
          repeat refine mo1_LiftD3 ?_
          first | exact trivial | exact rfl
        · refine R.cut_fam H 27 [1, 4, 6, 8] [] (fun v1546 => [(47, bS v1546)]) (fun v1546 => []) [(0, .cells 51 [.v (.int .i64 (0)), .v (.string ((⟨#[]⟩ : ByteArray))), .v (.int .i64 (0)), .bb false, .bb false, .bb false]), (9, .arr 3 1 (v1495.1.length) (ei .i64 (v1495.1))), (12, .cells 51 [.v (.int .i64 (0)), .v (.string ((⟨#[]⟩ : ByteArray))), .v (.int .i64 (0)), .bb false, .bb false, .bb false])] 0 (fun H => ?_)
          refine And.intro ?_ ?_
          · refine if_st H (fun h1548 H => ?_) (fun h1548 H => ?_)
            · refine ⟨(decide (a1 ≤ 83)), ⟨H⟩, ⟨rfl⟩, ?_⟩
              repeat refine mo1_LiftD3 ?_
              first | exact trivial | exact rfl
            · refine ⟨false, ⟨H⟩, ⟨rfl⟩, ?_⟩
              repeat refine mo1_LiftD3 ?_
              first | exact trivial | exact rfl
          · intro v1546 H
            refine if_st H (fun h1549 H => ?_) (fun h1549 H => ?_)
            · obtain ⟨v1550, hv1551, H⟩ := call_st H
              refine ⟨(a1, v1550), ⟨hv1551⟩, ⟨trivial⟩, ?_⟩
              refine And.intro ⟨rfl⟩ ?_
              refine if_st H (fun h1552 H => ?_) (fun h1552 H => ?_)
              · refine if_st H (fun h1553 H => ?_) (fun h1553 H => ?_)
                · refine ob_ck H fun h1554 H => ?_
                  refine ld_int (e := v1495.1.getD (0 : Int).toNat 0) (own_get (ys := ei .i64 v1495.1) (by first | rfl | simp [ei, eb, es, ec]) (ei_get (l := v1495.1) (by first | exact tn h1554 | (have := tn h1554; simp at this ⊢; omega) | (have := tn h1554; simp; omega)))) ?_
                  refine ⟨(v1550.1.1, v1550.1.2.1, v1550.1.2.2.1, v1550.1.2.2.2.1, v1550.1.2.2.2.2.1, v1550.1.2.2.2.2.2, (decide ((v1495.1.getD (0 : Int).toNat 0) = 1))), ⟨H⟩, ⟨rfl⟩, ?_⟩
                  repeat refine mo1_LiftD3 ?_
                  first | exact trivial | exact rfl
                · refine ⟨(v1550.1.1, v1550.1.2.1, v1550.1.2.2.1, v1550.1.2.2.2.1, v1550.1.2.2.2.2.1, v1550.1.2.2.2.2.2, false), ⟨H⟩, ⟨rfl⟩, ?_⟩
                  repeat refine mo1_LiftD3 ?_
                  first | exact trivial | exact rfl
              · refine ⟨(v1550.1.1, v1550.1.2.1, v1550.1.2.2.1, v1550.1.2.2.2.1, v1550.1.2.2.2.2.1, v1550.1.2.2.2.2.2, false), ⟨H⟩, ⟨rfl⟩, ?_⟩
                repeat refine mo1_LiftD3 ?_
                first | exact trivial | exact rfl
            · obtain ⟨v1555, hv1556, H⟩ := call_st H
              refine ⟨(a1, v1555), ⟨hv1556⟩, ⟨trivial⟩, ?_⟩
              refine And.intro ⟨rfl⟩ ?_
              refine if_st H (fun h1557 H => ?_) (fun h1557 H => ?_)
              · refine ob_ck H fun h1558 H => ?_
                refine ld_int (e := v1495.1.getD (0 : Int).toNat 0) (own_get (ys := ei .i64 v1495.1) (by first | rfl | simp [ei, eb, es, ec]) (ei_get (l := v1495.1) (by first | exact tn h1558 | (have := tn h1558; simp at this ⊢; omega) | (have := tn h1558; simp; omega)))) ?_
                refine ⟨(v1555.1.1, v1555.1.2.1, v1555.1.2.2.1, v1555.1.2.2.2.1, v1555.1.2.2.2.2.1, v1555.1.2.2.2.2.2, (decide ((v1495.1.getD (0 : Int).toNat 0) = 1))), ⟨H⟩, ⟨rfl⟩, ?_⟩
                repeat refine mo1_LiftD3 ?_
                first | exact trivial | exact rfl
              · refine ⟨(v1555.1.1, v1555.1.2.1, v1555.1.2.2.1, v1555.1.2.2.2.1, v1555.1.2.2.2.2.1, v1555.1.2.2.2.2.2, false), ⟨H⟩, ⟨rfl⟩, ?_⟩
                repeat refine mo1_LiftD3 ?_
                first | exact trivial | exact rfl
    · intro v1538 H
      refine if_st H (fun h1560 H => ?_) (fun h1560 H => ?_)
      · have hfin := fin_st H
        repeat refine mf1_LiftD3 ?_
        first | exact trivial | exact rfl
      · refine if_st H (fun h1571 H => ?_) (fun h1571 H => ?_)
        · refine ob_ck H fun h1572 H => ?_
          refine ld_int (e := v1495.1.getD (1 : Int).toNat 0) (own_get (ys := ei .i64 v1495.1) (by first | rfl | simp [ei, eb, es, ec]) (ei_get (l := v1495.1) (by first | exact tn h1572 | (have := tn h1572; simp at this ⊢; omega) | (have := tn h1572; simp; omega)))) ?_
          refine ob_ck H fun h1573 H => ?_
          refine if_st H (fun h1574 H => ?_) (fun h1574 H => ?_)
          · have hfin := fin_st H
            repeat refine mf1_LiftD3 ?_
            first | exact trivial | exact rfl
          · refine if_st H (fun h1575 H => ?_) (fun h1575 H => ?_)
            · have hfin := fin_st H
              repeat refine mf1_LiftD3 ?_
              first | exact trivial | exact rfl
            · refine And.intro ⟨by decide⟩ ?_
              refine And.intro ⟨by decide⟩ ?_
              refine ob_ck H fun h1576 H => ?_
              refine And.intro ⟨by decide⟩ ?_
              refine And.intro ⟨by decide⟩ ?_
              refine ob_ck H fun h1577 H => ?_
              have hfin := fin_st H
              repeat refine mf1_LiftD3 ?_
              first | exact trivial | exact rfl
        · have hfin := fin_st H
          repeat refine mf1_LiftD3 ?_
          first | exact trivial | exact rfl

/-- placard/keyin.letterBehind -/
noncomputable def g43 (a0 : List Int) : Option ((Int × Int × ByteArray × Int × Bool × Bool × Bool × Bool × Bool)) :=
  if ((a0.length : Nat) : Int) = 2 then
    some (0, 0, (⟨#[]⟩ : ByteArray), 0, false, false, false, false, false)
  else
    (
      ck (0 ≤ (2 : Int) ∧ 2 < ((a0.length : Nat) : Int)) <|
      if (a0.getD (2 : Int).toNat 0) < 64 then
        some (2, 0, (⟨#[]⟩ : ByteArray), 0, false, false, false, false, false)
      else
        (
          ck (0 ≤ (2 : Int) ∧ 2 < ((a0.length : Nat) : Int)) <|
          if 126 < (a0.getD (2 : Int).toNat 0) then
            some (2, 0, (⟨#[]⟩ : ByteArray), 0, false, false, false, false, false)
          else
            (
              ck (0 ≤ (2 : Int) ∧ 2 < ((a0.length : Nat) : Int)) <|
              (g55 (a0.getD (2 : Int).toNat 0)).bind fun v1592 =>
              some (3, v1592.1.1, v1592.1.2.1, v1592.1.2.2.1, v1592.1.2.2.2.1, v1592.1.2.2.2.2.1, v1592.1.2.2.2.2.2, v1592.2, false)
            )
        )
    )
noncomputable def k43 : Eng.CS := { f := 43, calm := true, more := 0, ι := (List Int) × (Int × Int × ByteArray × Int × Bool × Bool × Bool × Bool × Bool), ok := fun i => g43 i.1 = some i.2, rds := fun _ => [], args := fun i => [.sl 1 i.1.length (ei .u8 i.1)], res := fun i => .agg [.v (.int .i64 (i.2.1)), .v (.int .i64 (i.2.2.1)), .v (.string (i.2.2.2.1)), .v (.int .i64 (i.2.2.2.2.1)), bS i.2.2.2.2.2.1, bS i.2.2.2.2.2.2.1, bS i.2.2.2.2.2.2.2.1, bS i.2.2.2.2.2.2.2.2.1, bS i.2.2.2.2.2.2.2.2.2] }
set_option maxRecDepth 8000 in
set_option maxHeartbeats 4000000 in
theorem k43_ok : CalmOk Tryd.prog k43 := by
  refine R.calmspec Tryd.func43 nm43 rfl ?_
  rintro ⟨a0, r⟩ hok q _ args hargs
  match args, hargs with
  | [_], hargs =>
  obtain ⟨⟨A0, cp0, rfl, hc0, _, hR0⟩, _⟩ := hargs
  refine ⟨envC [k55] false [], 6, envC_ok (css_cons ⟨fun _ => k55_ok, fun h => (by cases h)⟩ (css_nil)), rfl, (by intro x hx; simp only [List.mem_cons, List.not_mem_nil, or_false] at hx; rcases hx with rfl <;> rfl), ?_⟩
  have H : Gives (g43 a0) (fun a => a = r) := ⟨r, hok, rfl⟩
  unfold g43 at H
  clear hok
  refine if_st H (fun h1579 H => ?_) (fun h1579 H => ?_)
  · have hfin := fin_st H
    repeat refine mf1_LiftD3 ?_
    first | exact trivial | exact rfl
  · refine ob_ix hR0 (fun h => ei0 h) H fun h1587 H => ?_
    refine ld_int (e := a0.getD (2 : Int).toNat 0) (rd_get hR0 (ei_get (l := a0) (tn h1587))) ?_
    refine if_st H (fun h1588 H => ?_) (fun h1588 H => ?_)
    · have hfin := fin_st H
      repeat refine mf1_LiftD3 ?_
      first | exact trivial | exact rfl
    · refine ob_ix hR0 (fun h => ei0 h) H fun h1589 H => ?_
      refine ld_int (e := a0.getD (2 : Int).toNat 0) (rd_get hR0 (ei_get (l := a0) (tn h1589))) ?_
      refine if_st H (fun h1590 H => ?_) (fun h1590 H => ?_)
      · have hfin := fin_st H
        repeat refine mf1_LiftD3 ?_
        first | exact trivial | exact rfl
      · refine ob_ix hR0 (fun h => ei0 h) H fun h1591 H => ?_
        refine ld_int (e := a0.getD (2 : Int).toNat 0) (rd_get hR0 (ei_get (l := a0) (tn h1591))) ?_
        obtain ⟨v1592, hv1593, H⟩ := call_st H
        refine ⟨(a0.getD (2 : Int).toNat 0, v1592), ⟨hv1593⟩, ⟨trivial⟩, ?_⟩
        refine And.intro ⟨rfl⟩ ?_
        have hfin := fin_st H
        repeat refine mf1_LiftD3 ?_
        first | exact trivial | exact rfl

/-- placard/keyin.sequence -/
noncomputable def g42 (a0 : List Int) : Option ((Int × Int × ByteArray × Int × Bool × Bool × Bool × Bool × Bool)) :=
  jn (α := _) (β := Int) (fun k1624 =>
      (loopO (σ := Int) (ρ := Int) (fun s1627 =>
          if s1627 < ((a0.length : Nat) : Int) then
            (
              ck (0 ≤ s1627 ∧ s1627 < ((a0.length : Nat) : Int)) <|
              if 48 ≤ (a0.getD s1627.toNat 0) then
                (
                  ck (0 ≤ s1627 ∧ s1627 < ((a0.length : Nat) : Int)) <|
                  if (a0.getD s1627.toNat 0) ≤ 63 then
                    (
                      ck (inR .i64 (s1627 + 1)) <|
                      some (.go (s1627 + 1))
                    )
                  else
                    some (.out s1627)
                )
              else
                some (.out s1627)
            )
          else
            some (.out s1627)
        ) 2).bind fun o1641 =>
        k1624 o1641
  ) (fun v1623 =>
    jn (α := _) (β := Int) (fun k1679 =>
        (loopO (σ := Int) (ρ := Int) (fun s1682 =>
            if s1682 < ((a0.length : Nat) : Int) then
              (
                ck (0 ≤ s1682 ∧ s1682 < ((a0.length : Nat) : Int)) <|
                if 32 ≤ (a0.getD s1682.toNat 0) then
                  (
                    ck (0 ≤ s1682 ∧ s1682 < ((a0.length : Nat) : Int)) <|
                    if (a0.getD s1682.toNat 0) ≤ 47 then
                      (
                        ck (inR .i64 (s1682 + 1)) <|
                        some (.go (s1682 + 1))
                      )
                    else
                      some (.out s1682)
                  )
                else
                  some (.out s1682)
              )
            else
              some (.out s1682)
          ) v1623).bind fun o1696 =>
          k1679 o1696
    ) (fun v1678 =>
      if 32 ≤ v1678 then
        some (32, 0, (⟨#[]⟩ : ByteArray), 0, false, false, false, false, false)
      else
        (
          if v1678 = ((a0.length : Nat) : Int) then
            some (0, 0, (⟨#[]⟩ : ByteArray), 0, false, false, false, false, false)
          else
            (
              ck (0 ≤ v1678 ∧ v1678 < ((a0.length : Nat) : Int)) <|
              if (a0.getD v1678.toNat 0) < 64 then
                some (v1678, 0, (⟨#[]⟩ : ByteArray), 0, false, false, false, false, false)
              else
                (
                  if 126 < (a0.getD v1678.toNat 0) then
                    some (v1678, 0, (⟨#[]⟩ : ByteArray), 0, false, false, false, false, false)
                  else
                    (
                      ck (inR .i64 (v1678 + 1)) <|
                      if v1623 < v1678 then
                        some (v1678 + 1, 0, (⟨#[]⟩ : ByteArray), 0, false, false, false, false, false)
                      else
                        (
                          if (a0.getD v1678.toNat 0) = 126 then
                            (
                              ck (0 ≤ (2 : Int) ∧ (2 : Int) ≤ v1678 ∧ v1678 ≤ ((a0.length : Nat) : Int)) <|
                              ck (isBytes ((a0.drop (2 : Int).toNat).take (v1678.toNat - (2 : Int).toNat))) <|
                              if (strOf ((a0.drop (2 : Int).toNat).take (v1678.toNat - (2 : Int).toNat))).data.toList = (lit [50, 48, 48]).data.toList then
                                some (v1678 + 1, 0, (⟨#[]⟩ : ByteArray), 0, false, false, false, false, true)
                              else
                                (
                                  ck (0 ≤ (2 : Int) ∧ (2 : Int) ≤ v1678 ∧ v1678 ≤ ((a0.length : Nat) : Int)) <|
                                  (g54 ((a0.drop (2 : Int).toNat).take (v1678.toNat - (2 : Int).toNat)) (a0.getD v1678.toNat 0)).bind fun v1741 =>
                                  some (v1678 + 1, v1741.1.1, v1741.1.2.1, v1741.1.2.2.1, v1741.1.2.2.2.1, v1741.1.2.2.2.2.1, v1741.1.2.2.2.2.2, v1741.2, false)
                                )
                            )
                          else
                            (
                              ck (0 ≤ (2 : Int) ∧ (2 : Int) ≤ v1678 ∧ v1678 ≤ ((a0.length : Nat) : Int)) <|
                              (g54 ((a0.drop (2 : Int).toNat).take (v1678.toNat - (2 : Int).toNat)) (a0.getD v1678.toNat 0)).bind fun v1747 =>
                              some (v1678 + 1, v1747.1.1, v1747.1.2.1, v1747.1.2.2.1, v1747.1.2.2.2.1, v1747.1.2.2.2.2.1, v1747.1.2.2.2.2.2, v1747.2, false)
                            )
                        )
                    )
                )
            )
        )
    )
  )
noncomputable def k42 : Eng.CS := { f := 42, calm := true, more := 0, ι := (List Int) × (Int × Int × ByteArray × Int × Bool × Bool × Bool × Bool × Bool), ok := fun i => g42 i.1 = some i.2, rds := fun _ => [], args := fun i => [.sl 1 i.1.length (ei .u8 i.1)], res := fun i => .agg [.v (.int .i64 (i.2.1)), .v (.int .i64 (i.2.2.1)), .v (.string (i.2.2.2.1)), .v (.int .i64 (i.2.2.2.2.1)), bS i.2.2.2.2.2.1, bS i.2.2.2.2.2.2.1, bS i.2.2.2.2.2.2.2.1, bS i.2.2.2.2.2.2.2.2.1, bS i.2.2.2.2.2.2.2.2.2] }
set_option maxRecDepth 8000 in
set_option maxHeartbeats 4000000 in
theorem k42_ok : CalmOk Tryd.prog k42 := by
  refine R.calmspec Tryd.func42 nm42 rfl ?_
  rintro ⟨a0, r⟩ hok q _ args hargs
  match args, hargs with
  | [_], hargs =>
  obtain ⟨⟨A0, cp0, rfl, hc0, _, hR0⟩, _⟩ := hargs
  refine ⟨envC [k54] false [(42, 4), (42, 7)], 6, envC_ok (css_cons ⟨fun _ => k54_ok, fun h => (by cases h)⟩ (css_nil)), rfl, (by intro x hx; simp only [List.mem_cons, List.not_mem_nil, or_false] at hx; rcases hx with rfl <;> rfl), ?_⟩
  have H : Gives (g42 a0) (fun a => a = r) := ⟨r, hok, rfl⟩
  unfold g42 at H
  clear hok
  refine R.cut_fam H 22 [0, 2] [] (fun v1623 => [(3, .v (.int .i64 (v1623)))]) (fun v1623 => []) [(0, .cells 71 [.v (.int .i64 (0)), .v (.int .i64 (0)), .v (.string ((⟨#[]⟩ : ByteArray))), .v (.int .i64 (0)), .bb false, .bb false, .bb false, .bb false, .bb false])] 0 (fun H => ?_)
  refine And.intro ?_ ?_
  · refine R.loop_fam (bind_st H) [0, 2] [] (fun _ s1627 => [(3, .v (.int .i64 (s1627)))]) (fun _ s1627 => []) 0 (fun n1648 H => ?_)
    refine ⟨(n1648, _), ⟨H⟩, ⟨trivial⟩, ?_⟩
    repeat refine mo1_LiftD3 ?_
    rintro ⟨m0, s1627⟩ H _
    obtain ⟨m1628, hm0, H⟩ := IG_succ H
    dsimp only at hm0
    subst hm0
    try dsimp only at H
    refine if_st H (fun h1642 H => ?_) (fun h1642 H => ?_)
    · refine ob_ix hR0 (fun h => ei0 h) H fun h1643 H => ?_
      refine ld_int (e := a0.getD s1627.toNat 0) (rd_get hR0 (ei_get (l := a0) (tn h1643))) ?_
      refine if_st H (fun h1644 H => ?_) (fun h1644 H => ?_)
      · refine ob_ix hR0 (fun h => ei0 h) H fun h1645 H => ?_
        refine ld_int (e := a0.getD s1627.toNat 0) (rd_get hR0 (ei_get (l := a0) (tn h1645))) ?_
        refine if_st H (fun h1646 H => ?_) (fun h1646 H => ?_)
        · refine ob_ck H fun h1647 H => ?_
          replace H := some_st H
          refine ⟨(m1628, s1627 + 1), ⟨H, Nat.lt_succ_self _⟩, ⟨trivial⟩, ⟨rfl⟩, ?_⟩
          repeat refine mo1_LiftD3 ?_
          first | exact trivial | exact rfl
        · replace H := some_st H
          dsimp only [stp, sm] at H
          refine ⟨s1627, ⟨H⟩, ⟨rfl⟩, ?_⟩
          repeat refine mo1_LiftD3 ?_
          first | exact trivial | exact rfl
      · replace H := some_st H
        dsimp only [stp, sm] at H
        refine ⟨s1627, ⟨H⟩, ⟨rfl⟩, ?_⟩
        repeat refine mo1_LiftD3 ?_
        first | exact trivial | exact rfl
    · replace H := some_st H
      dsimp only [stp, sm] at H
      refine ⟨s1627, ⟨H⟩, ⟨rfl⟩, ?_⟩
      repeat refine mo1_LiftD3 ?_
      first | exact trivial | exact rfl
  · intro v1623 H
    refine R.cut_fam H 44 [0, 2, 4] [] (fun v1678 => [(3, .v (.int .i64 (v1678)))]) (fun v1678 => []) [(0, .cells 71 [.v (.int .i64 (0)), .v (.int .i64 (0)), .v (.string ((⟨#[]⟩ : ByteArray))), .v (.int .i64 (0)), .bb false, .bb false, .bb false, .bb false, .bb false])] 0 (fun H => ?_)
    refine And.intro ?_ ?_
    · refine R.loop_fam (bind_st H) [0, 2, 4] [] (fun _ s1682 => [(3, .v (.int .i64 (s1682)))]) (fun _ s1682 => []) 0 (fun n1703 H => ?_)
      refine ⟨(n1703, _), ⟨H⟩, ⟨trivial⟩, ?_⟩
      repeat refine mo1_LiftD3 ?_
      rintro ⟨m0, s1682⟩ H _
      obtain ⟨m1683, hm0, H⟩ := IG_succ H
      dsimp only at hm0
      subst hm0
      try dsimp only at H
      refine if_st H (fun h1697 H => ?_) (fun h1697 H => ?_)
      · refine ob_ix hR0 (fun h => ei0 h) H fun h1698 H => ?_
        refine ld_int (e := a0.getD s1682.toNat 0) (rd_get hR0 (ei_get (l := a0) (tn h1698))) ?_
        refine if_st H (fun h1699 H => ?_) (fun h1699 H => ?_)
        · refine ob_ix hR0 (fun h => ei0 h) H fun h1700 H => ?_
          refine ld_int (e := a0.getD s1682.toNat 0) (rd_get hR0 (ei_get (l := a0) (tn h1700))) ?_
          refine if_st H (fun h1701 H => ?_) (fun h1701 H => ?_)
          · refine ob_ck H fun h1702 H => ?_
            replace H := some_st H
            refine ⟨(m1683, s1682 + 1), ⟨H, Nat.lt_succ_self _⟩, ⟨trivial⟩, ⟨rfl⟩, ?_⟩
            repeat refine mo1_LiftD3 ?_
            first | exact trivial | exact rfl
          · replace H := some_st H
            dsimp only [stp, sm] at H
            refine ⟨s1682, ⟨H⟩, ⟨rfl⟩, ?_⟩
            repeat refine mo1_LiftD3 ?_
            first | exact trivial | exact rfl
        · replace H := some_st H
          dsimp only [stp, sm] at H
          refine ⟨s1682, ⟨H⟩, ⟨rfl⟩, ?_⟩
          repeat refine mo1_LiftD3 ?_
          first | exact trivial | exact rfl
      · replace H := some_st H
        dsimp only [stp, sm] at H
        refine ⟨s1682, ⟨H⟩, ⟨rfl⟩, ?_⟩
        repeat refine mo1_LiftD3 ?_
        first | exact trivial | exact rfl
    · intro v1678 H
      refine if_st H (fun h1705 H => ?_) (fun h1705 H => ?_)
      · have hfin := fin_st H
        repeat refine mf1_LiftD3 ?_
        first | exact trivial | exact rfl
      · refine if_st H (fun h1707 H => ?_) (fun h1707 H => ?_)
        · have hfin := fin_st H
          repeat refine mf1_LiftD3 ?_
          first | exact trivial | exact rfl
        · refine ob_ix hR0 (fun h => ei0 h) H fun h1708 H => ?_
          refine ld_int (e := a0.getD v1678.toNat 0) (rd_get hR0 (ei_get (l := a0) (tn h1708))) ?_
          refine if_st H (fun h1712 H => ?_) (fun h1712 H => ?_)
          · have hfin := fin_st H
            repeat refine mf1_LiftD3 ?_
            first | exact trivial | exact rfl
          · refine if_st H (fun h1713 H => ?_) (fun h1713 H => ?_)
            · have hfin := fin_st H
              repeat refine mf1_LiftD3 ?_
              first | exact trivial | exact rfl
            · refine ob_ck H fun h1714 H => ?_
              refine if_st H (fun h1716 H => ?_) (fun h1716 H => ?_)
              · have hfin := fin_st H
                repeat refine mf1_LiftD3 ?_
                first | exact trivial | exact rfl
              · refine if_st H (fun h1730 H => ?_) (fun h1730 H => ?_)
                · refine ob_sl hc0 H fun h1731 H => ?_
                  have hs1732 := sl_ei hR0 rfl hc0 h1731
                  intro n1733 hn1734
                  obtain rfl : n1733 = ((a0.drop (2 : Int).toNat).take (v1678.toNat - (2 : Int).toNat)).length := hn1734.trans hs1732.2.1.symm
                  refine rs_st hs1732.1 (by rw [ei_len, Nat.mul_one]) ?_
                  refine ob_str (l := ((a0.drop (2 : Int).toNat).take (v1678.toNat - (2 : Int).toNat))) H fun h1735 H => ?_
                  refine if_st H (fun h1736 H => ?_) (fun h1736 H => ?_)
                  · have hfin := fin_st H
                    repeat refine mf1_LiftD3 ?_
                    first | exact trivial | exact rfl
                  · refine ob_sl hc0 H fun h1737 H => ?_
                    have hs1738 := sl_ei hR0 rfl hc0 h1737
                    intro n1739 hn1740
                    obtain rfl : n1739 = ((a0.drop (2 : Int).toNat).take (v1678.toNat - (2 : Int).toNat)).length := hn1740.trans hs1738.2.1.symm
                    obtain ⟨v1741, hv1742, H⟩ := call_st H
                    refine ⟨(((a0.drop (2 : Int).toNat).take (v1678.toNat - (2 : Int).toNat)), a0.getD v1678.toNat 0, v1741), ⟨hv1742⟩, ⟨trivial⟩, ?_⟩
                    refine And.intro ⟨rfl, (Nat.le_trans (Nat.le_of_eq hs1738.2.1) hs1738.2.2), ei_len.trans ((show _ = _ from rfl).trans (Nat.mul_one _).symm), hs1738.1⟩ ?_
                    refine And.intro ⟨rfl⟩ ?_
                    have hfin := fin_st H
                    repeat refine mf1_LiftD3 ?_
                    first | exact trivial | exact rfl
                · refine ob_sl hc0 H fun h1743 H => ?_
                  have hs1744 := sl_ei hR0 rfl hc0 h1743
                  intro n1745 hn1746
                  obtain rfl : n1745 = ((a0.drop (2 : Int).toNat).take (v1678.toNat - (2 : Int).toNat)).length := hn1746.trans hs1744.2.1.symm
                  obtain ⟨v1747, hv1748, H⟩ := call_st H
                  refine ⟨(((a0.drop (2 : Int).toNat).take (v1678.toNat - (2 : Int).toNat)), a0.getD v1678.toNat 0, v1747), ⟨hv1748⟩, ⟨trivial⟩, ?_⟩
                  refine And.intro ⟨rfl, (Nat.le_trans (Nat.le_of_eq hs1744.2.1) hs1744.2.2), ei_len.trans ((show _ = _ from rfl).trans (Nat.mul_one _).symm), hs1744.1⟩ ?_
                  refine And.intro ⟨rfl⟩ ?_
                  have hfin := fin_st H
                  repeat refine mf1_LiftD3 ?_
                  first | exact trivial | exact rfl

/-- placard/placardref07.bracket -/
noncomputable def g36 (a0 : List Int) : Option ((Int × Int × ByteArray × Int × Bool × Bool × Bool × Bool × Bool)) :=
  jn (α := _) (β := Int) (fun k1779 =>
      (loopO (σ := Int) (ρ := Int) (fun s1782 =>
          if s1782 < ((a0.length : Nat) : Int) then
            (
              ck (0 ≤ s1782 ∧ s1782 < ((a0.length : Nat) : Int)) <|
              if 48 ≤ (a0.getD s1782.toNat 0) then
                (
                  ck (0 ≤ s1782 ∧ s1782 < ((a0.length : Nat) : Int)) <|
                  if (a0.getD s1782.toNat 0) ≤ 63 then
                    (
                      ck (inR .i64 (s1782 + 1)) <|
                      some (.go (s1782 + 1))
                    )
                  else
                    some (.out s1782)
                )
              else
                some (.out s1782)
            )
          else
            some (.out s1782)
        ) 2).bind fun o1796 =>
        k1779 o1796
  ) (fun v1778 =>
    jn (α := _) (β := Int) (fun k1834 =>
        (loopO (σ := Int) (ρ := Int) (fun s1837 =>
            if s1837 < ((a0.length : Nat) : Int) then
              (
                ck (0 ≤ s1837 ∧ s1837 < ((a0.length : Nat) : Int)) <|
                if 32 ≤ (a0.getD s1837.toNat 0) then
                  (
                    ck (0 ≤ s1837 ∧ s1837 < ((a0.length : Nat) : Int)) <|
                    if (a0.getD s1837.toNat 0) ≤ 47 then
                      (
                        ck (inR .i64 (s1837 + 1)) <|
                        some (.go (s1837 + 1))
                      )
                    else
                      some (.out s1837)
                  )
                else
                  some (.out s1837)
              )
            else
              some (.out s1837)
          ) v1778).bind fun o1851 =>
          k1834 o1851
    ) (fun v1833 =>
      jn (α := _) (β := Unit) (fun k1913 =>
          if 32 ≤ v1833 then
            some (32, 0, (⟨#[]⟩ : ByteArray), 0, false, false, false, false, false)
          else
            (
              if v1833 = ((a0.length : Nat) : Int) then
                some (0, 0, (⟨#[]⟩ : ByteArray), 0, false, false, false, false, false)
              else
                (
                  jn (α := _) (β := Bool) (fun k1920 =>
                      ck (0 ≤ v1833 ∧ v1833 < ((a0.length : Nat) : Int)) <|
                      if (a0.getD v1833.toNat 0) < 64 then
                        k1920 true
                      else
                        (
                          ck (0 ≤ v1833 ∧ v1833 < ((a0.length : Nat) : Int)) <|
                          k1920 (decide (126 < (a0.getD v1833.toNat 0)))
                        )
                  ) (fun v1919 =>
                    if v1919 = true then
                      some (v1833, 0, (⟨#[]⟩ : ByteArray), 0, false, false, false, false, false)
                    else
                      (
                        if v1778 = v1833 then
                          (
                            ck (0 ≤ v1833 ∧ v1833 < ((a0.length : Nat) : Int)) <|
                            if (a0.getD v1833.toNat 0) = 126 then
                              (
                                ck (0 ≤ (2 : Int) ∧ (2 : Int) ≤ v1833 ∧ v1833 ≤ ((a0.length : Nat) : Int)) <|
                                ck (isBytes ((a0.drop (2 : Int).toNat).take (v1833.toNat - (2 : Int).toNat))) <|
                                if (strOf ((a0.drop (2 : Int).toNat).take (v1833.toNat - (2 : Int).toNat))).data.toList = (lit [50, 48, 48]).data.toList then
                                  (
                                    ck (inR .i64 (v1833 + 1)) <|
                                    some (v1833 + 1, 0, (⟨#[]⟩ : ByteArray), 0, false, false, false, false, true)
                                  )
                                else
                                  k1913 ()
                              )
                            else
                              k1913 ()
                          )
                        else
                          k1913 ()
                      )
                  )
                )
            )
      ) (fun v1912 =>
        ck (0 ≤ (2 : Int) ∧ (2 : Int) ≤ v1833 ∧ v1833 ≤ ((a0.length : Nat) : Int)) <|
        ck (0 ≤ v1833 ∧ v1833 < ((a0.length : Nat) : Int)) <|
        (g48 ((a0.drop (2 : Int).toNat).take (v1833.toNat - (2 : Int).toNat)) (a0.getD v1833.toNat 0)).bind fun v1940 =>
        ck (inR .i64 (v1833 + 1)) <|
        some (v1833 + 1, v1940.1.1, v1940.1.2.1, v1940.1.2.2.1, v1940.1.2.2.2.1, v1940.1.2.2.2.2.1, v1940.1.2.2.2.2.2, v1940.2, false)
      )
    )
  )
noncomputable def k36 : Eng.CS := { f := 36, calm := true, more := 0, ι := (List Int) × (Int × Int × ByteArray × Int × Bool × Bool × Bool × Bool × Bool), ok := fun i => g36 i.1 = some i.2, rds := fun _ => [], args := fun i => [.sl 1 i.1.length (ei .u8 i.1)], res := fun i => .agg [.v (.int .i64 (i.2.1)), .v (.int .i64 (i.2.2.1)), .v (.string (i.2.2.2.1)), .v (.int .i64 (i.2.2.2.2.1)), bS i.2.2.2.2.2.1, bS i.2.2.2.2.2.2.1, bS i.2.2.2.2.2.2.2.1, bS i.2.2.2.2.2.2.2.2.1, bS i.2.2.2.2.2.2.2.2.2] }
set_option maxRecDepth 8000 in
set_option maxHeartbeats 4000000 in
theorem k36_ok : CalmOk Tryd.prog k36 := by
  refine R.calmspec Tryd.func36 nm36 rfl ?_
  rintro ⟨a0, r⟩ hok q _ args hargs
  match args, hargs with
  | [_], hargs =>
  obtain ⟨⟨A0, cp0, rfl, hc0, _, hR0⟩, _⟩ := hargs
  refine ⟨envC [k48] false [(36, 4), (36, 7), (36, 12), (36, 15)], 6, envC_ok (css_cons ⟨fun _ => k48_ok, fun h => (by cases h)⟩ (css_nil)), rfl, (by intro x hx; simp only [List.mem_cons, List.not_mem_nil, or_false] at hx; rcases hx with rfl <;> rfl), ?_⟩
  have H : Gives (g36 a0) (fun a => a = r) := ⟨r, hok, rfl⟩
  unfold g36 at H
  clear hok
  refine R.cut_fam H 22 [0, 2] [] (fun v1778 => [(3, .v (.int .i64 (v1778)))]) (fun v1778 => []) [(0, .cells 66 [.v (.int .i64 (0)), .v (.int .i64 (0)), .v (.string ((⟨#[]⟩ : ByteArray))), .v (.int .i64 (0)), .bb false, .bb false, .bb false, .bb false, .bb false])] 0 (fun H => ?_)
  refine And.intro ?_ ?_
  · refine R.loop_fam (bind_st H) [0, 2] [] (fun _ s1782 => [(3, .v (.int .i64 (s1782)))]) (fun _ s1782 => []) 0 (fun n1803 H => ?_)
    refine ⟨(n1803, _), ⟨H⟩, ⟨trivial⟩, ?_⟩
    repeat refine mo1_LiftD3 ?_
    rintro ⟨m0, s1782⟩ H _
    obtain ⟨m1783, hm0, H⟩ := IG_succ H
    dsimp only at hm0
    subst hm0
    try dsimp only at H
    refine if_st H (fun h1797 H => ?_) (fun h1797 H => ?_)
    · refine ob_ix hR0 (fun h => ei0 h) H fun h1798 H => ?_
      refine ld_int (e := a0.getD s1782.toNat 0) (rd_get hR0 (ei_get (l := a0) (tn h1798))) ?_
      refine if_st H (fun h1799 H => ?_) (fun h1799 H => ?_)
      · refine ob_ix hR0 (fun h => ei0 h) H fun h1800 H => ?_
        refine ld_int (e := a0.getD s1782.toNat 0) (rd_get hR0 (ei_get (l := a0) (tn h1800))) ?_
        refine if_st H (fun h1801 H => ?_) (fun h1801 H => ?_)
        · refine ob_ck H fun h1802 H => ?_
          replace H := some_st H
          refine ⟨(m1783, s1782 + 1), ⟨H, Nat.lt_succ_self _⟩, ⟨trivial⟩, ⟨rfl⟩, ?_⟩
          repeat refine mo1_LiftD3 ?_
          first | exact trivial | exact rfl
        · replace H := some_st H
          dsimp only [stp, sm] at H
          refine ⟨s1782, ⟨H⟩, ⟨rfl⟩, ?_⟩
          repeat refine mo1_LiftD3 ?_
          first | exact trivial | exact rfl
      · replace H := some_st H
        dsimp only [stp, sm] at H
        refine ⟨s1782, ⟨H⟩, ⟨rfl⟩, ?_⟩
        repeat refine mo1_LiftD3 ?_
        first | exact trivial | exact rfl
    · replace H := some_st H
      dsimp only [stp, sm] at H
      refine ⟨s1782, ⟨H⟩, ⟨rfl⟩, ?_⟩
      repeat refine mo1_LiftD3 ?_
      first | exact trivial | exact rfl
  · intro v1778 H
    refine R.cut_fam H 44 [0, 2, 4] [] (fun v1833 => [(3, .v (.int .i64 (v1833)))]) (fun v1833 => []) [(0, .cells 66 [.v (.int .i64 (0)), .v (.int .i64 (0)), .v (.string ((⟨#[]⟩ : ByteArray))), .v (.int .i64 (0)), .bb false, .bb false, .bb false, .bb false, .bb false])] 0 (fun H => ?_)
    refine And.intro ?_ ?_
    · refine R.loop_fam (bind_st H) [0, 2, 4] [] (fun _ s1837 => [(3, .v (.int .i64 (s1837)))]) (fun _ s1837 => []) 0 (fun n1858 H => ?_)
      refine ⟨(n1858, _), ⟨H⟩, ⟨trivial⟩, ?_⟩
      repeat refine mo1_LiftD3 ?_
      rintro ⟨m0, s1837⟩ H _
      obtain ⟨m1838, hm0, H⟩ := IG_succ H
      dsimp only at hm0
      subst hm0
      try dsimp only at H
      refine if_st H (fun h1852 H => ?_) (fun h1852 H => ?_)
      · refine ob_ix hR0 (fun h => ei0 h) H fun h1853 H => ?_
        refine ld_int (e := a0.getD s1837.toNat 0) (rd_get hR0 (ei_get (l := a0) (tn h1853))) ?_
        refine if_st H (fun h1854 H => ?_) (fun h1854 H => ?_)
        · refine ob_ix hR0 (fun h => ei0 h) H fun h1855 H => ?_
          refine ld_int (e := a0.getD s1837.toNat 0) (rd_get hR0 (ei_get (l := a0) (tn h1855))) ?_
          refine if_st H (fun h1856 H => ?_) (fun h1856 H => ?_)
          · refine ob_ck H fun h1857 H => ?_
            replace H := some_st H
            refine ⟨(m1838, s1837 + 1), ⟨H, Nat.lt_succ_self _⟩, ⟨trivial⟩, ⟨rfl⟩, ?_⟩
            repeat refine mo1_LiftD3 ?_
            first | exact trivial | exact rfl
          · replace H := some_st H
            dsimp only [stp, sm] at H
            refine ⟨s1837, ⟨H⟩, ⟨rfl⟩, ?_⟩
            repeat refine mo1_LiftD3 ?_
            first | exact trivial | exact rfl
        · replace H := some_st H
          dsimp only [stp, sm] at H
          refine ⟨s1837, ⟨H⟩, ⟨rfl⟩, ?_⟩
          repeat refine mo1_LiftD3 ?_
          first | exact trivial | exact rfl
      · replace H := some_st H
        dsimp only [stp, sm] at H
        refine ⟨s1837, ⟨H⟩, ⟨rfl⟩, ?_⟩
        repeat refine mo1_LiftD3 ?_
        first | exact trivial | exact rfl
    · intro v1833 H
      refine R.cut_fam H 85 [0, 2, 3] [] (fun v1912 => []) (fun v1912 => []) [(0, .cells 66 [.v (.int .i64 (0)), .v (.int .i64 (0)), .v (.string ((⟨#[]⟩ : ByteArray))), .v (.int .i64 (0)), .bb false, .bb false, .bb false, .bb false, .bb false])] 0 (fun H => ?_)
      refine And.intro ?_ ?_
      · refine if_st H (fun h1914 H => ?_) (fun h1914 H => ?_)
        · have hfin := fin_st H
          repeat refine mf1_LiftD3 ?_
          first | exact trivial | exact rfl
        · refine if_st H (fun h1915 H => ?_) (fun h1915 H => ?_)
          · have hfin := fin_st H
            repeat refine mf1_LiftD3 ?_
            first | exact trivial | exact rfl
          · refine R.cut_fam H 66 [0, 2, 3, 4] [] (fun v1919 => [(58, bS v1919)]) (fun v1919 => []) [(0, .cells 66 [.v (.int .i64 (0)), .v (.int .i64 (0)), .v (.string ((⟨#[]⟩ : ByteArray))), .v (.int .i64 (0)), .bb false, .bb false, .bb false, .bb false, .bb false])] 0 (fun H => ?_)
            refine And.intro ?_ ?_
            · refine ob_ix hR0 (fun h => ei0 h) H fun h1921 H => ?_
              refine ld_int (e := a0.getD v1833.toNat 0) (rd_get hR0 (ei_get (l := a0) (tn h1921))) ?_
              refine if_st H (fun h1922 H => ?_) (fun h1922 H => ?_)
              · refine ⟨true, ⟨H⟩, ⟨rfl⟩, ?_⟩
                repeat refine mo1_LiftD3 ?_
                first | exact trivial | exact rfl
              · refine ob_ix hR0 (fun h => ei0 h) H fun h1923 H => ?_
                refine ld_int (e := a0.getD v1833.toNat 0) (rd_get hR0 (ei_get (l := a0) (tn h1923))) ?_
                refine ⟨(decide (126 < (a0.getD v1833.toNat 0))), ⟨H⟩, ⟨rfl⟩, ?_⟩
                repeat refine mo1_LiftD3 ?_
                first | exact trivial | exact rfl
            · intro v1919 H
              refine if_st H (fun h1924 H => ?_) (fun h1924 H => ?_)
              · have hfin := fin_st H
                repeat refine mf1_LiftD3 ?_
                first | exact trivial | exact rfl
              · refine if_st H (fun h1925 H => ?_) (fun h1925 H => ?_)
                · refine ob_ix hR0 (fun h => ei0 h) H fun h1926 H => ?_
                  refine ld_int (e := a0.getD v1833.toNat 0) (rd_get hR0 (ei_get (l := a0) (tn h1926))) ?_
                  refine if_st H (fun h1927 H => ?_) (fun h1927 H => ?_)
                  · refine ob_sl hc0 H fun h1928 H => ?_
                    have hs1929 := sl_ei hR0 rfl hc0 h1928
                    intro n1930 hn1931
                    obtain rfl : n1930 = ((a0.drop (2 : Int).toNat).take (v1833.toNat - (2 : Int).toNat)).length := hn1931.trans hs1929.2.1.symm
                    refine rs_st hs1929.1 (by rw [ei_len, Nat.mul_one]) ?_
                    refine ob_str (l := ((a0.drop (2 : Int).toNat).take (v1833.toNat - (2 : Int).toNat))) H fun h1932 H => ?_
                    refine if_st H (fun h1933 H => ?_) (fun h1933 H => ?_)
                    · refine ob_ck H fun h1934 H => ?_
                      have hfin := fin_st H
                      repeat refine mf1_LiftD3 ?_
                      first | exact trivial | exact rfl
                    · refine ⟨(), ⟨H⟩, ⟨rfl⟩, ?_⟩
                      repeat refine mo1_LiftD3 ?_
                      first | exact trivial | exact rfl
                  · refine ⟨(), ⟨H⟩, ⟨rfl⟩, ?_⟩
                    repeat refine mo1_LiftD3 ?_
                    first | exact trivial | exact rfl
                · refine ⟨(), ⟨H⟩, ⟨rfl⟩, ?_⟩
                  repeat refine mo1_LiftD3 ?_
                  first | exact trivial | exact rfl
      · intro v1912 H
        refine And.intro ⟨by kernel_rfl⟩ ?_
        refine ⟨(Pn.calm 0 (Pn.calm 1 (Pn.calm 2 (Pn.calm 3 (Pn.calm 4 (Pn.calm 5 (Pn.calm 6 (Pn.calm 7 (Pn.calm 8 (Pn.calm 9 (Pn.calm 10 (Pn.eff 11 [] (Pn.eff 12 [11, 9, 7, 0, 1, 2, 3, 4, 5, 6, 8] (Pn.calm 13 Pn.done) Pn.no) Pn.no)))))))))))), ⟨by kernel_rfl⟩, ?_⟩
        refine ob_sl hc0 H fun h1935 H => ?_
        have hs1936 := sl_ei hR0 rfl hc0 h1935
        intro n1937 hn1938
        obtain rfl : n1937 = ((a0.drop (2 : Int).toNat).take (v1833.toNat - (2 : Int).toNat)).length := hn1938.trans hs1936.2.1.symm
        refine ob_ix hR0 (fun h => ei0 h) H fun h1939 H => ?_
        refine ld_int (e := a0.getD v1833.toNat 0) (rd_get hR0 (ei_get (l := a0) (tn h1939))) ?_
        obtain ⟨v1940, hv1941, H⟩ := call_st H
        refine ⟨(((a0.drop (2 : Int).toNat).take (v1833.toNat - (2 : Int).toNat)), a0.getD v1833.toNat 0, v1940), ⟨hv1941⟩, ⟨trivial⟩, ?_⟩
        refine And.intro ⟨rfl, (Nat.le_trans (Nat.le_of_eq hs1936.2.1) hs1936.2.2), ei_len.trans ((show _ = _ from rfl).trans (Nat.mul_one _).symm), hs1936.1⟩ ?_
        refine And.intro ⟨rfl⟩ ?_
        refine And.intro ?_ trivial
        refine And.intro ⟨fun _ _ _ h => h⟩ ?_
        refine And.intro ?_ trivial
        refine And.intro ⟨fun _ _ _ h => h⟩ ?_
        refine ob_ck H fun h1942 H => ?_
        have hfin := fin_st H
        repeat refine mf1_LiftD3 ?_
        first | exact trivial | exact rfl

/-- placard/placardref07.plain -/
noncomputable def g35 (a0 : List Int) : Option ((Int × Int × ByteArray × Int × Bool × Bool × Bool × Bool × Bool)) :=
  ck (0 ≤ (0 : Int) ∧ 0 < ((a0.length : Nat) : Int)) <|
  jn (α := _) (β := Bool) (fun k1959 =>
      if (a0.getD (0 : Int).toNat 0) = 13 then
        k1959 true
      else
        k1959 (decide ((a0.getD (0 : Int).toNat 0) = 10))
  ) (fun v1958 =>
    if v1958 = true then
      some (1, 2, (⟨#[]⟩ : ByteArray), 0, false, false, false, true, false)
    else
      (
        if (a0.getD (0 : Int).toNat 0) = 9 then
          some (1, 3, (⟨#[]⟩ : ByteArray), 0, false, false, false, true, false)
        else
          (
            if (a0.getD (0 : Int).toNat 0) = 8 then
              some (1, 6, (⟨#[]⟩ : ByteArray), 0, false, false, false, true, false)
            else
              (
                if (a0.getD (0 : Int).toNat 0) = 127 then
                  some (1, 6, (⟨#[]⟩ : ByteArray), 0, false, false, false, true, false)
                else
                  (
                    if (a0.getD (0 : Int).toNat 0) < 32 then
                      (
                        (g47 (a0.getD (0 : Int).toNat 0)).bind fun v1966 =>
                        some (1, 17, v1966, 0, false, false, false, true, false)
                      )
                    else
                      (
                        (g44 a0).bind fun v1968 =>
                        if v1968.2.2 = true then
                          some (0, 0, (⟨#[]⟩ : ByteArray), 0, false, false, false, false, false)
                        else
                          (
                            (g34 v1968.1).bind fun v1972 =>
                            ck (isBytes v1972) <|
                            some (v1968.2.1, 1, strOf v1972, 0, false, false, false, true, false)
                          )
                      )
                  )
              )
          )
      )
  )
noncomputable def k35 : Eng.CS := { f := 35, calm := true, more := 0, ι := (List Int) × (Int × Int × ByteArray × Int × Bool × Bool × Bool × Bool × Bool), ok := fun i => g35 i.1 = some i.2, rds := fun _ => [], args := fun i => [.sl 1 i.1.length (ei .u8 i.1)], res := fun i => .agg [.v (.int .i64 (i.2.1)), .v (.int .i64 (i.2.2.1)), .v (.string (i.2.2.2.1)), .v (.int .i64 (i.2.2.2.2.1)), bS i.2.2.2.2.2.1, bS i.2.2.2.2.2.2.1, bS i.2.2.2.2.2.2.2.1, bS i.2.2.2.2.2.2.2.2.1, bS i.2.2.2.2.2.2.2.2.2] }
set_option maxRecDepth 8000 in
set_option maxHeartbeats 4000000 in
theorem k35_ok : CalmOk Tryd.prog k35 := by
  refine R.calmspec Tryd.func35 nm35 rfl ?_
  rintro ⟨a0, r⟩ hok q _ args hargs
  match args, hargs with
  | [_], hargs =>
  obtain ⟨⟨A0, cp0, rfl, hc0, _, hR0⟩, _⟩ := hargs
  refine ⟨envC [k34, k44, k47] false [(35, 3)], 6, envC_ok (css_cons ⟨fun h => (by cases h), fun _ => k34_ok⟩ (css_cons ⟨fun _ => k44_ok, fun h => (by cases h)⟩ (css_cons ⟨fun _ => k47_ok, fun h => (by cases h)⟩ (css_nil)))), rfl, (by intro x hx; simp only [List.mem_cons, List.not_mem_nil, or_false] at hx; rcases hx with rfl <;> rfl), ?_⟩
  have H : Gives (g35 a0) (fun a => a = r) := ⟨r, hok, rfl⟩
  unfold g35 at H
  clear hok
  refine ob_ix hR0 (fun h => ei0 h) H fun h1943 H => ?_
  refine ld_int (e := a0.getD (0 : Int).toNat 0) (rd_get hR0 (ei_get (l := a0) (tn h1943))) ?_
  refine R.cut_fam H 13 [0, 2, 3] [] (fun v1958 => [(10, bS v1958)]) (fun v1958 => []) [(0, .cells 66 [.v (.int .i64 (0)), .v (.int .i64 (0)), .v (.string ((⟨#[]⟩ : ByteArray))), .v (.int .i64 (0)), .bb false, .bb false, .bb false, .bb false, .bb false])] 0 (fun H => ?_)
  refine And.intro ?_ ?_
  · refine if_st H (fun h1960 H => ?_) (fun h1960 H => ?_)
    · refine ⟨true, ⟨H⟩, ⟨rfl⟩, ?_⟩
      repeat refine mo1_LiftD3 ?_
      first | exact trivial | exact rfl
    · refine ⟨(decide ((a0.getD (0 : Int).toNat 0) = 10)), ⟨H⟩, ⟨rfl⟩, ?_⟩
      repeat refine mo1_LiftD3 ?_
      first | exact trivial | exact rfl
  · intro v1958 H
    refine if_st H (fun h1961 H => ?_) (fun h1961 H => ?_)
    · have hfin := fin_st H
      repeat refine mf1_LiftD3 ?_
      first | exact trivial | exact rfl
    · refine if_st H (fun h1962 H => ?_) (fun h1962 H => ?_)
      · have hfin := fin_st H
        repeat refine mf1_LiftD3 ?_
        first | exact trivial | exact rfl
      · refine if_st H (fun h1963 H => ?_) (fun h1963 H => ?_)
        · have hfin := fin_st H
          repeat refine mf1_LiftD3 ?_
          first | exact trivial | exact rfl
        · refine if_st H (fun h1964 H => ?_) (fun h1964 H => ?_)
          · have hfin := fin_st H
            repeat refine mf1_LiftD3 ?_
            first | exact trivial | exact rfl
          · refine if_st H (fun h1965 H => ?_) (fun h1965 H => ?_)
            · obtain ⟨v1966, hv1967, H⟩ := call_st H
              refine ⟨(a0.getD (0 : Int).toNat 0, v1966), ⟨hv1967⟩, ⟨trivial⟩, ?_⟩
              refine And.intro ⟨rfl⟩ ?_
              have hfin := fin_st H
              repeat refine mf1_LiftD3 ?_
              first | exact trivial | exact rfl
            · obtain ⟨v1968, hv1969, H⟩ := call_st H
              refine ⟨(a0, v1968), ⟨hv1969⟩, ⟨trivial⟩, ?_⟩
              refine And.intro ⟨rfl, hc0, ei_len.trans ((show _ = _ from rfl).trans (Nat.mul_one _).symm), hR0⟩ ?_
              refine if_st H (fun h1971 H => ?_) (fun h1971 H => ?_)
              · have hfin := fin_st H
                repeat refine mf1_LiftD3 ?_
                first | exact trivial | exact rfl
              · obtain ⟨v1972, hv1973, H⟩ := call_st H
                refine ⟨(v1968.1, v1972), ⟨hv1973⟩, ⟨trivial⟩, ?_⟩
                refine And.intro ⟨rfl⟩ ?_
                refine ob_str (l := v1972) H fun h1974 H => ?_
                have hfin := fin_st H
                repeat refine mf1_LiftD3 ?_
                first | exact trivial | exact rfl

/-- placard/keyin.plain -/
noncomputable def g41 (a0 : List Int) : Option ((Int × Int × ByteArray × Int × Bool × Bool × Bool × Bool × Bool)) :=
  ck (0 ≤ (0 : Int) ∧ 0 < ((a0.length : Nat) : Int)) <|
  jn (α := _) (β := Bool) (fun k2004 =>
      if (a0.getD (0 : Int).toNat 0) = 10 then
        k2004 (decide ((a0.getD (0 : Int).toNat 0) = 10))
      else
        k2004 (decide ((a0.getD (0 : Int).toNat 0) = 13))
  ) (fun v2003 =>
    if v2003 = true then
      some (1, 2, (⟨#[]⟩ : ByteArray), 0, false, false, false, true, false)
    else
      (
        if (a0.getD (0 : Int).toNat 0) = 9 then
          some (1, 3, (⟨#[]⟩ : ByteArray), 0, false, false, false, true, false)
        else
          (
            jn (α := _) (β := Bool) (fun k2010 =>
                if (a0.getD (0 : Int).toNat 0) = 8 then
                  k2010 (decide ((a0.getD (0 : Int).toNat 0) = 8))
                else
                  k2010 (decide ((a0.getD (0 : Int).toNat 0) = 127))
            ) (fun v2009 =>
              if v2009 = true then
                some (1, 6, (⟨#[]⟩ : ByteArray), 0, false, false, false, true, false)
              else
                (
                  if (a0.getD (0 : Int).toNat 0) < 32 then
                    (
                      (g52 (a0.getD (0 : Int).toNat 0)).bind fun v2014 =>
                      some (1, 17, v2014, 0, false, false, false, true, false)
                    )
                  else
                    (
                      (g53 a0).bind fun v2016 =>
                      if v2016.2.2 = true then
                        some (0, 0, (⟨#[]⟩ : ByteArray), 0, false, false, false, false, false)
                      else
                        (
                          (g51 v2016.1).bind fun v2019 =>
                          ck (isBytes v2019) <|
                          some (v2016.2.1, 1, strOf v2019, 0, false, false, false, true, false)
                        )
                    )
                )
            )
          )
      )
  )
noncomputable def k41 : Eng.CS := { f := 41, calm := true, more := 0, ι := (List Int) × (Int × Int × ByteArray × Int × Bool × Bool × Bool × Bool × Bool), ok := fun i => g41 i.1 = some i.2, rds := fun _ => [], args := fun i => [.sl 1 i.1.length (ei .u8 i.1)], res := fun i => .agg [.v (.int .i64 (i.2.1)), .v (.int .i64 (i.2.2.1)), .v (.string (i.2.2.2.1)), .v (.int .i64 (i.2.2.2.2.1)), bS i.2.2.2.2.2.1, bS i.2.2.2.2.2.2.1, bS i.2.2.2.2.2.2.2.1, bS i.2.2.2.2.2.2.2.2.1, bS i.2.2.2.2.2.2.2.2.2] }
set_option maxRecDepth 8000 in
set_option maxHeartbeats 4000000 in
theorem k41_ok : CalmOk Tryd.prog k41 := by
  refine R.calmspec Tryd.func41 nm41 rfl ?_
  rintro ⟨a0, r⟩ hok q _ args hargs
  match args, hargs with
  | [_], hargs =>
  obtain ⟨⟨A0, cp0, rfl, hc0, _, hR0⟩, _⟩ := hargs
  refine ⟨envC [k51, k52, k53] false [(41, 14), (41, 19)], 6, envC_ok (css_cons ⟨fun h => (by cases h), fun _ => k51_ok⟩ (css_cons ⟨fun _ => k52_ok, fun h => (by cases h)⟩ (css_cons ⟨fun _ => k53_ok, fun h => (by cases h)⟩ (css_nil)))), rfl, (by intro x hx; simp only [List.mem_cons, List.not_mem_nil, or_false] at hx; rcases hx with rfl <;> rfl), ?_⟩
  have H : Gives (g41 a0) (fun a => a = r) := ⟨r, hok, rfl⟩
  unfold g41 at H
  clear hok
  refine ob_ix hR0 (fun h => ei0 h) H fun h1975 H => ?_
  refine ld_int (e := a0.getD (0 : Int).toNat 0) (rd_get hR0 (ei_get (l := a0) (tn h1975))) ?_
  refine R.cut_fam H 14 [0, 2, 3, 4, 12] [] (fun v2003 => [(35, bS v2003)]) (fun v2003 => []) [(0, .cells 71 [.v (.int .i64 (0)), .v (.int .i64 (0)), .v (.string ((⟨#[]⟩ : ByteArray))), .v (.int .i64 (0)), .bb false, .bb false, .bb false, .bb false, .bb false]), (6, .cells 71 [.v (.int .i64 (1)), .v (.int .i64 (0)), .v (.string ((⟨#[]⟩ : ByteArray))), .v (.int .i64 (0)), .bb false, .bb false, .bb false, .bb true, .bb false])] 0 (fun H => ?_)
  refine And.intro ?_ ?_
  · refine if_st H (fun h2005 H => ?_) (fun h2005 H => ?_)
    · refine ⟨(decide ((a0.getD (0 : Int).toNat 0) = 10)), ⟨H⟩, ⟨rfl⟩, ?_⟩
      repeat refine mo1_LiftD3 ?_
      first | exact trivial | exact rfl
    · refine ⟨(decide ((a0.getD (0 : Int).toNat 0) = 13)), ⟨H⟩, ⟨rfl⟩, ?_⟩
      repeat refine mo1_LiftD3 ?_
      first | exact trivial | exact rfl
  · intro v2003 H
    refine if_st H (fun h2006 H => ?_) (fun h2006 H => ?_)
    · have hfin := fin_st H
      repeat refine mf1_LiftD3 ?_
      first | exact trivial | exact rfl
    · refine if_st H (fun h2007 H => ?_) (fun h2007 H => ?_)
      · have hfin := fin_st H
        repeat refine mf1_LiftD3 ?_
        first | exact trivial | exact rfl
      · refine R.cut_fam H 21 [0, 2, 3, 4] [] (fun v2009 => [(44, bS v2009)]) (fun v2009 => []) [(0, .cells 71 [.v (.int .i64 (0)), .v (.int .i64 (0)), .v (.string ((⟨#[]⟩ : ByteArray))), .v (.int .i64 (0)), .bb false, .bb false, .bb false, .bb false, .bb false]), (6, .cells 71 [.v (.int .i64 (1)), .v (.int .i64 (0)), .v (.string ((⟨#[]⟩ : ByteArray))), .v (.int .i64 (0)), .bb false, .bb false, .bb false, .bb true, .bb false])] 0 (fun H => ?_)
        refine And.intro ?_ ?_
        · refine if_st H (fun h2011 H => ?_) (fun h2011 H => ?_)
          · refine ⟨(decide ((a0.getD (0 : Int).toNat 0) = 8)), ⟨H⟩, ⟨rfl⟩, ?_⟩
            repeat refine mo1_LiftD3 ?_
            first | exact trivial | exact rfl
          · refine ⟨(decide ((a0.getD (0 : Int).toNat 0) = 127)), ⟨H⟩, ⟨rfl⟩, ?_⟩
            repeat refine mo1_LiftD3 ?_
            first | exact trivial | exact rfl
        · intro v2009 H
          refine if_st H (fun h2012 H => ?_) (fun h2012 H => ?_)
          · have hfin := fin_st H
            repeat refine mf1_LiftD3 ?_
            first | exact trivial | exact rfl
          · refine if_st H (fun h2013 H => ?_) (fun h2013 H => ?_)
            · obtain ⟨v2014, hv2015, H⟩ := call_st H
              refine ⟨(a0.getD (0 : Int).toNat 0, v2014), ⟨hv2015⟩, ⟨trivial⟩, ?_⟩
              refine And.intro ⟨rfl⟩ ?_
              have hfin := fin_st H
              repeat refine mf1_LiftD3 ?_
              first | exact trivial | exact rfl
            · obtain ⟨v2016, hv2017, H⟩ := call_st H
              refine ⟨(a0, v2016), ⟨hv2017⟩, ⟨trivial⟩, ?_⟩
              refine And.intro ⟨rfl, hc0, ei_len.trans ((show _ = _ from rfl).trans (Nat.mul_one _).symm), hR0⟩ ?_
              refine if_st H (fun h2018 H => ?_) (fun h2018 H => ?_)
              · have hfin := fin_st H
                repeat refine mf1_LiftD3 ?_
                first | exact trivial | exact rfl
              · obtain ⟨v2019, hv2020, H⟩ := call_st H
                refine ⟨(v2016.1, v2019), ⟨hv2020⟩, ⟨trivial⟩, ?_⟩
                refine And.intro ⟨rfl⟩ ?_
                refine ob_str (l := v2019) H fun h2021 H => ?_
                have hfin := fin_st H
                repeat refine mf1_LiftD3 ?_
                first | exact trivial | exact rfl

/-- placard/placardref07.First -/
noncomputable def g27 (a0 : List Int) : Option ((Int × Int × ByteArray × Int × Bool × Bool × Bool × Bool × Bool)) :=
  ck (0 ≤ (0 : Int) ∧ 0 < ((a0.length : Nat) : Int)) <|
  if ¬ (a0.getD (0 : Int).toNat 0) = 27 then
    (
      (g35 a0).bind fun v2028 =>
      some (v2028.1, v2028.2.1, v2028.2.2.1, v2028.2.2.2.1, v2028.2.2.2.2.1, v2028.2.2.2.2.2.1, v2028.2.2.2.2.2.2.1, v2028.2.2.2.2.2.2.2.1, v2028.2.2.2.2.2.2.2.2)
    )
  else
    (
      if ((a0.length : Nat) : Int) = 1 then
        some (0, 0, (⟨#[]⟩ : ByteArray), 0, false, false, false, false, false)
      else
        (
          ck (0 ≤ (1 : Int) ∧ 1 < ((a0.length : Nat) : Int)) <|
          if (a0.getD (1 : Int).toNat 0) = 27 then
            some (1, 5, (⟨#[]⟩ : ByteArray), 0, false, false, false, true, false)
          else
            (
              if (a0.getD (1 : Int).toNat 0) = 91 then
                (
                  (g36 a0).bind fun v2057 =>
                  some (v2057.1, v2057.2.1, v2057.2.2.1, v2057.2.2.2.1, v2057.2.2.2.2.1, v2057.2.2.2.2.2.1, v2057.2.2.2.2.2.2.1, v2057.2.2.2.2.2.2.2.1, v2057.2.2.2.2.2.2.2.2)
                )
              else
                (
                  if (a0.getD (1 : Int).toNat 0) = 79 then
                    (
                      if ((a0.length : Nat) : Int) = 2 then
                        some (0, 0, (⟨#[]⟩ : ByteArray), 0, false, false, false, false, false)
                      else
                        (
                          ck (0 ≤ (2 : Int) ∧ 2 < ((a0.length : Nat) : Int)) <|
                          if (a0.getD (2 : Int).toNat 0) < 64 then
                            some (2, 0, (⟨#[]⟩ : ByteArray), 0, false, false, false, false, false)
                          else
                            (
                              ck (0 ≤ (2 : Int) ∧ 2 < ((a0.length : Nat) : Int)) <|
                              if 126 < (a0.getD (2 : Int).toNat 0) then
                                some (2, 0, (⟨#[]⟩ : ByteArray), 0, false, false, false, false, false)
                              else
                                (
                                  ck (0 ≤ (2 : Int) ∧ 2 < ((a0.length : Nat) : Int)) <|
                                  (g37 (a0.getD (2 : Int).toNat 0)).bind fun v2066 =>
                                  some (3, v2066.1.1, v2066.1.2.1, v2066.1.2.2.1, v2066.1.2.2.2.1, v2066.1.2.2.2.2.1, v2066.1.2.2.2.2.2, v2066.2, false)
                                )
                            )
                        )
                    )
                  else
                    (
                      ck (0 ≤ (1 : Int) ∧ (1 : Int) ≤ ((a0.length : Nat) : Int) ∧ ((a0.length : Nat) : Int) ≤ ((a0.length : Nat) : Int)) <|
                      (g35 ((a0.drop (1 : Int).toNat).take (((a0.length : Nat) : Int).toNat - (1 : Int).toNat))).bind fun v2072 =>
                      if 0 < v2072.1 then
                        (
                          ck (inR .i64 (v2072.1 + 1)) <|
                          some (v2072.1 + 1, v2072.2.1, v2072.2.2.1, v2072.2.2.2.1, true, v2072.2.2.2.2.2.1, v2072.2.2.2.2.2.2.1, v2072.2.2.2.2.2.2.2.1, v2072.2.2.2.2.2.2.2.2)
                        )
                      else
                        some (v2072.1, v2072.2.1, v2072.2.2.1, v2072.2.2.2.1, v2072.2.2.2.2.1, v2072.2.2.2.2.2.1, v2072.2.2.2.2.2.2.1, v2072.2.2.2.2.2.2.2.1, v2072.2.2.2.2.2.2.2.2)
                    )
                )
            )
        )
    )
noncomputable def k27 : Eng.CS := { f := 27, calm := true, more := 0, ι := (List Int) × (Int × Int × ByteArray × Int × Bool × Bool × Bool × Bool × Bool), ok := fun i => g27 i.1 = some i.2, rds := fun _ => [], args := fun i => [.sl 1 i.1.length (ei .u8 i.1)], res := fun i => .agg [.v (.int .i64 (i.2.1)), .v (.int .i64 (i.2.2.1)), .v (.string (i.2.2.2.1)), .v (.int .i64 (i.2.2.2.2.1)), bS i.2.2.2.2.2.1, bS i.2.2.2.2.2.2.1, bS i.2.2.2.2.2.2.2.1, bS i.2.2.2.2.2.2.2.2.1, bS i.2.2.2.2.2.2.2.2.2] }
set_option maxRecDepth 8000 in
set_option maxHeartbeats 4000000 in
theorem k27_ok : CalmOk Tryd.prog k27 := by
  refine R.calmspec Tryd.func27 nm27 rfl ?_
  rintro ⟨a0, r⟩ hok q _ args hargs
  match args, hargs with
  | [_], hargs =>
  obtain ⟨⟨A0, cp0, rfl, hc0, _, hR0⟩, _⟩ := hargs
  refine ⟨envC [k35, k36, k37] false [], 6, envC_ok (css_cons ⟨fun _ => k35_ok, fun h => (by cases h)⟩ (css_cons ⟨fun _ => k36_ok, fun h => (by cases h)⟩ (css_cons ⟨fun _ => k37_ok, fun h => (by cases h)⟩ (css_nil)))), rfl, (by intro x hx; simp only [List.mem_cons, List.not_mem_nil, or_false] at hx; rcases hx with rfl <;> rfl), ?_⟩
  have H : Gives (g27 a0) (fun a => a = r) := ⟨r, hok, rfl⟩
  unfold g27 at H
  clear hok
  refine ob_ix hR0 (fun h => ei0 h) H fun h2026 H => ?_
  refine ld_int (e := a0.getD (0 : Int).toNat 0) (rd_get hR0 (ei_get (l := a0) (tn h2026))) ?_
  refine if_st H (fun h2027 H => ?_) (fun h2027 H => ?_)
  · obtain ⟨v2028, hv2029, H⟩ := call_st H
    refine ⟨(a0, v2028), ⟨hv2029⟩, ⟨trivial⟩, ?_⟩
    refine And.intro ⟨rfl, hc0, ei_len.trans ((show _ = _ from rfl).trans (Nat.mul_one _).symm), hR0⟩ ?_
    have hfin := fin_st H
    repeat refine mf1_LiftD3 ?_
    first | exact trivial | exact rfl
  · refine if_st H (fun h2031 H => ?_) (fun h2031 H => ?_)
    · have hfin := fin_st H
      repeat refine mf1_LiftD3 ?_
      first | exact trivial | exact rfl
    · refine ob_ix hR0 (fun h => ei0 h) H fun h2054 H => ?_
      refine ld_int (e := a0.getD (1 : Int).toNat 0) (rd_get hR0 (ei_get (l := a0) (tn h2054))) ?_
      refine if_st H (fun h2055 H => ?_) (fun h2055 H => ?_)
      · have hfin := fin_st H
        repeat refine mf1_LiftD3 ?_
        first | exact trivial | exact rfl
      · refine if_st H (fun h2056 H => ?_) (fun h2056 H => ?_)
        · obtain ⟨v2057, hv2058, H⟩ := call_st H
          refine ⟨(a0, v2057), ⟨hv2058⟩, ⟨trivial⟩, ?_⟩
          refine And.intro ⟨rfl, hc0, ei_len.trans ((show _ = _ from rfl).trans (Nat.mul_one _).symm), hR0⟩ ?_
          have hfin := fin_st H
          repeat refine mf1_LiftD3 ?_
          first | exact trivial | exact rfl
        · refine if_st H (fun h2059 H => ?_) (fun h2059 H => ?_)
          · refine if_st H (fun h2060 H => ?_) (fun h2060 H => ?_)
            · have hfin := fin_st H
              repeat refine mf1_LiftD3 ?_
              first | exact trivial | exact rfl
            · refine ob_ix hR0 (fun h => ei0 h) H fun h2061 H => ?_
              refine ld_int (e := a0.getD (2 : Int).toNat 0) (rd_get hR0 (ei_get (l := a0) (tn h2061))) ?_
              refine if_st H (fun h2062 H => ?_) (fun h2062 H => ?_)
              · have hfin := fin_st H
                repeat refine mf1_LiftD3 ?_
                first | exact trivial | exact rfl
              · refine ob_ix hR0 (fun h => ei0 h) H fun h2063 H => ?_
                refine ld_int (e := a0.getD (2 : Int).toNat 0) (rd_get hR0 (ei_get (l := a0) (tn h2063))) ?_
                refine if_st H (fun h2064 H => ?_) (fun h2064 H => ?_)
                · have hfin := fin_st H
                  repeat refine mf1_LiftD3 ?_
                  first | exact trivial | exact rfl
                · refine ob_ix hR0 (fun h => ei0 h) H fun h2065 H => ?_
                  refine ld_int (e := a0.getD (2 : Int).toNat 0) (rd_get hR0 (ei_get (l := a0) (tn h2065))) ?_
                  obtain ⟨v2066, hv2067, H⟩ := call_st H
                  refine ⟨(a0.getD (2 : Int).toNat 0, v2066), ⟨hv2067⟩, ⟨trivial⟩, ?_⟩
                  refine And.intro ⟨rfl⟩ ?_
                  have hfin := fin_st H
                  repeat refine mf1_LiftD3 ?_
                  first | exact trivial | exact rfl
          · refine ob_sl hc0 H fun h2068 H => ?_
            have hs2069 := sl_ei hR0 rfl hc0 h2068
            intro n2070 hn2071
            obtain rfl : n2070 = ((a0.drop (1 : Int).toNat).take (((a0.length : Nat) : Int).toNat - (1 : Int).toNat)).length := hn2071.trans hs2069.2.1.symm
            obtain ⟨v2072, hv2073, H⟩ := call_st H
            refine ⟨(((a0.drop (1 : Int).toNat).take (((a0.length : Nat) : Int).toNat - (1 : Int).toNat)), v2072), ⟨hv2073⟩, ⟨trivial⟩, ?_⟩
            refine And.intro ⟨rfl, (Nat.le_trans (Nat.le_of_eq hs2069.2.1) hs2069.2.2), ei_len.trans ((show _ = _ from rfl).trans (Nat.mul_one _).symm), hs2069.1⟩ ?_
            refine if_st H (fun h2076 H => ?_) (fun h2076 H => ?_)
            · refine ob_ck H fun h2077 H => ?_
              have hfin := fin_st H
              repeat refine mf1_LiftD3 ?_
              first | exact trivial | exact rfl
            · have hfin := fin_st H
              repeat refine mf1_LiftD3 ?_
              first | exact trivial | exact rfl

/-- placard/keyin.first -/
noncomputable def g32 (a0 : List Int) : Option ((Int × Int × ByteArray × Int × Bool × Bool × Bool × Bool × Bool)) :=
  ck (0 ≤ (0 : Int) ∧ 0 < ((a0.length : Nat) : Int)) <|
  if ¬ (a0.getD (0 : Int).toNat 0) = 27 then
    (
      (g41 a0).bind fun v2084 =>
      some (v2084.1, v2084.2.1, v2084.2.2.1, v2084.2.2.2.1, v2084.2.2.2.2.1, v2084.2.2.2.2.2.1, v2084.2.2.2.2.2.2.1, v2084.2.2.2.2.2.2.2.1, v2084.2.2.2.2.2.2.2.2)
    )
  else
    (
      if ((a0.length : Nat) : Int) = 1 then
        some (0, 0, (⟨#[]⟩ : ByteArray), 0, false, false, false, false, false)
      else
        (
          ck (0 ≤ (1 : Int) ∧ 1 < ((a0.length : Nat) : Int)) <|
          if (a0.getD (1 : Int).toNat 0) = 27 then
            some (1, 5, (⟨#[]⟩ : ByteArray), 0, false, false, false, true, false)
          else
            (
              if (a0.getD (1 : Int).toNat 0) = 91 then
                (
                  (g42 a0).bind fun v2099 =>
                  some (v2099.1, v2099.2.1, v2099.2.2.1, v2099.2.2.2.1, v2099.2.2.2.2.1, v2099.2.2.2.2.2.1, v2099.2.2.2.2.2.2.1, v2099.2.2.2.2.2.2.2.1, v2099.2.2.2.2.2.2.2.2)
                )
              else
                (
                  if (a0.getD (1 : Int).toNat 0) = 79 then
                    (
                      (g43 a0).bind fun v2102 =>
                      some (v2102.1, v2102.2.1, v2102.2.2.1, v2102.2.2.2.1, v2102.2.2.2.2.1, v2102.2.2.2.2.2.1, v2102.2.2.2.2.2.2.1, v2102.2.2.2.2.2.2.2.1, v2102.2.2.2.2.2.2.2.2)
                    )
                  else
                    (
                      ck (0 ≤ (1 : Int) ∧ (1 : Int) ≤ ((a0.length : Nat) : Int) ∧ ((a0.length : Nat) : Int) ≤ ((a0.length : Nat) : Int)) <|
                      (g41 ((a0.drop (1 : Int).toNat).take (((a0.length : Nat) : Int).toNat - (1 : Int).toNat))).bind fun v2108 =>
                      if 0 < v2108.1 then
                        (
                          ck (inR .i64 (v2108.1 + 1)) <|
                          some (v2108.1 + 1, v2108.2.1, v2108.2.2.1, v2108.2.2.2.1, true, v2108.2.2.2.2.2.1, v2108.2.2.2.2.2.2.1, v2108.2.2.2.2.2.2.2.1, v2108.2.2.2.2.2.2.2.2)
                        )
                      else
                        some (v2108.1, v2108.2.1, v2108.2.2.1, v2108.2.2.2.1, v2108.2.2.2.2.1, v2108.2.2.2.2.2.1, v2108.2.2.2.2.2.2.1, v2108.2.2.2.2.2.2.2.1, v2108.2.2.2.2.2.2.2.2)
                    )
                )
            )
        )
    )
noncomputable def k32 : Eng.CS := { f := 32, calm := true, more := 0, ι := (List Int) × (Int × Int × ByteArray × Int × Bool × Bool × Bool × Bool × Bool), ok := fun i => g32 i.1 = some i.2, rds := fun _ => [], args := fun i => [.sl 1 i.1.length (ei .u8 i.1)], res := fun i => .agg [.v (.int .i64 (i.2.1)), .v (.int .i64 (i.2.2.1)), .v (.string (i.2.2.2.1)), .v (.int .i64 (i.2.2.2.2.1)), bS i.2.2.2.2.2.1, bS i.2.2.2.2.2.2.1, bS i.2.2.2.2.2.2.2.1, bS i.2.2.2.2.2.2.2.2.1, bS i.2.2.2.2.2.2.2.2.2] }
set_option maxRecDepth 8000 in
set_option maxHeartbeats 4000000 in
theorem k32_ok : CalmOk Tryd.prog k32 := by
  refine R.calmspec Tryd.func32 nm32 rfl ?_
  rintro ⟨a0, r⟩ hok q _ args hargs
  match args, hargs with
  | [_], hargs =>
  obtain ⟨⟨A0, cp0, rfl, hc0, _, hR0⟩, _⟩ := hargs
  refine ⟨envC [k41, k42, k43] false [], 6, envC_ok (css_cons ⟨fun _ => k41_ok, fun h => (by cases h)⟩ (css_cons ⟨fun _ => k42_ok, fun h => (by cases h)⟩ (css_cons ⟨fun _ => k43_ok, fun h => (by cases h)⟩ (css_nil)))), rfl, (by intro x hx; simp only [List.mem_cons, List.not_mem_nil, or_false] at hx; rcases hx with rfl <;> rfl), ?_⟩
  have H : Gives (g32 a0) (fun a => a = r) := ⟨r, hok, rfl⟩
  unfold g32 at H
  clear hok
  refine ob_ix hR0 (fun h => ei0 h) H fun h2082 H => ?_
  refine ld_int (e := a0.getD (0 : Int).toNat 0) (rd_get hR0 (ei_get (l := a0) (tn h2082))) ?_
  refine if_st H (fun h2083 H => ?_) (fun h2083 H => ?_)
  · obtain ⟨v2084, hv2085, H⟩ := call_st H
    refine ⟨(a0, v2084), ⟨hv2085⟩, ⟨trivial⟩, ?_⟩
    refine And.intro ⟨rfl, hc0, ei_len.trans ((show _ = _ from rfl).trans (Nat.mul_one _).symm), hR0⟩ ?_
    have hfin := fin_st H
    repeat refine mf1_LiftD3 ?_
    first | exact trivial | exact rfl
  · refine if_st H (fun h2087 H => ?_) (fun h2087 H => ?_)
    · have hfin := fin_st H
      repeat refine mf1_LiftD3 ?_
      first | exact trivial | exact rfl
    · refine ob_ix hR0 (fun h => ei0 h) H fun h2096 H => ?_
      refine ld_int (e := a0.getD (1 : Int).toNat 0) (rd_get hR0 (ei_get (l := a0) (tn h2096))) ?_
      refine if_st H (fun h2097 H => ?_) (fun h2097 H => ?_)
      · have hfin := fin_st H
        repeat refine mf1_LiftD3 ?_
        first | exact trivial | exact rfl
      · refine if_st H (fun h2098 H => ?_) (fun h2098 H => ?_)
        · obtain ⟨v2099, hv2100, H⟩ := call_st H
          refine ⟨(a0, v2099), ⟨hv2100⟩, ⟨trivial⟩, ?_⟩
          refine And.intro ⟨rfl, hc0, ei_len.trans ((show _ = _ from rfl).trans (Nat.mul_one _).symm), hR0⟩ ?_
          have hfin := fin_st H
          repeat refine mf1_LiftD3 ?_
          first | exact trivial | exact rfl
        · refine if_st H (fun h2101 H => ?_) (fun h2101 H => ?_)
          · obtain ⟨v2102, hv2103, H⟩ := call_st H
            refine ⟨(a0, v2102), ⟨hv2103⟩, ⟨trivial⟩, ?_⟩
            refine And.intro ⟨rfl, hc0, ei_len.trans ((show _ = _ from rfl).trans (Nat.mul_one _).symm), hR0⟩ ?_
            have hfin := fin_st H
            repeat refine mf1_LiftD3 ?_
            first | exact trivial | exact rfl
          · refine ob_sl hc0 H fun h2104 H => ?_
            have hs2105 := sl_ei hR0 rfl hc0 h2104
            intro n2106 hn2107
            obtain rfl : n2106 = ((a0.drop (1 : Int).toNat).take (((a0.length : Nat) : Int).toNat - (1 : Int).toNat)).length := hn2107.trans hs2105.2.1.symm
            obtain ⟨v2108, hv2109, H⟩ := call_st H
            refine ⟨(((a0.drop (1 : Int).toNat).take (((a0.length : Nat) : Int).toNat - (1 : Int).toNat)), v2108), ⟨hv2109⟩, ⟨trivial⟩, ?_⟩
            refine And.intro ⟨rfl, (Nat.le_trans (Nat.le_of_eq hs2105.2.1) hs2105.2.2), ei_len.trans ((show _ = _ from rfl).trans (Nat.mul_one _).symm), hs2105.1⟩ ?_
            refine if_st H (fun h2112 H => ?_) (fun h2112 H => ?_)
            · refine ob_ck H fun h2113 H => ?_
              have hfin := fin_st H
              repeat refine mf1_LiftD3 ?_
              first | exact trivial | exact rfl
            · have hfin := fin_st H
              repeat refine mf1_LiftD3 ?_
              first | exact trivial | exact rfl

end Go.Proofs.YtenjkphlbdhaiaaDoor
