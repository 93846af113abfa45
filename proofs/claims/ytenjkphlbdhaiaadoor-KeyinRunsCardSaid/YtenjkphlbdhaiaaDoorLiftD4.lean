/-
  Functions of the program, lifted: each with its walk. Printed by lift.py.
  Nothing here is trusted.
-/
import Derived.Test.YtenjkphlbdhaiaaDoorLiftE4
set_option linter.unusedVariables false
set_option linter.unusedSimpArgs false
namespace Go.Proofs.YtenjkphlbdhaiaaDoor
open Go Go.Eng

theorem mo1_LiftD4 {p q : Prop} (k : q) (h : p := by first | exact rfl | exact Iff.rfl | exact ⟨rfl, rfl⟩ | exact decide_eq_true_iff | (constructor <;> first | exact rfl | (simp only [ei, eb, es, ec, c51, gmin, gmax, List.map_append, List.flatMap_append, List.nil_append, List.append_nil, List.append_assoc]; done) | omega | (simp only [List.nil_append, List.length_append, List.length_cons, List.length_nil]; omega) | (simp [ei, eb, es, ec, c51, gmin, gmax]; done)) | exact rfl | (simp only [ei, eb, es, ec, c51, gmin, gmax, List.map_append, List.flatMap_append, List.nil_append, List.append_nil, List.append_assoc]; done) | omega | (simp only [List.nil_append, List.length_append, List.length_cons, List.length_nil]; omega) | (simp [ei, eb, es, ec, c51, gmin, gmax]; done) | simp [ei, eb, es, ec, c51, gmin, gmax]) : Ob p ∧ q := ⟨⟨h⟩, k⟩
theorem mf1_LiftD4 {p q : Prop} (k : q) (h : p := by first | (rw [← hfin] <;> first | exact rfl | exact Iff.rfl | exact ⟨rfl, rfl⟩ | exact decide_eq_true_iff | (constructor <;> first | exact rfl | (simp only [ei, eb, es, ec, c51, gmin, gmax, List.map_append, List.flatMap_append, List.nil_append, List.append_nil, List.append_assoc]; done) | omega | (simp only [List.nil_append, List.length_append, List.length_cons, List.length_nil]; omega) | (simp [ei, eb, es, ec, c51, gmin, gmax]; done)) | exact rfl | (simp only [ei, eb, es, ec, c51, gmin, gmax, List.map_append, List.flatMap_append, List.nil_append, List.append_nil, List.append_assoc]; done) | omega | (simp only [List.nil_append, List.length_append, List.length_cons, List.length_nil]; omega) | (simp [ei, eb, es, ec, c51, gmin, gmax]; done) | simp [ei, eb, es, ec, c51, gmin, gmax]) | first | exact rfl | exact Iff.rfl | exact ⟨rfl, rfl⟩ | exact decide_eq_true_iff | (constructor <;> first | exact rfl | (simp only [ei, eb, es, ec, c51, gmin, gmax, List.map_append, List.flatMap_append, List.nil_append, List.append_nil, List.append_assoc]; done) | omega | (simp only [List.nil_append, List.length_append, List.length_cons, List.length_nil]; omega) | (simp [ei, eb, es, ec, c51, gmin, gmax]; done)) | exact rfl | (simp only [ei, eb, es, ec, c51, gmin, gmax, List.map_append, List.flatMap_append, List.nil_append, List.append_nil, List.append_assoc]; done) | omega | (simp only [List.nil_append, List.length_append, List.length_cons, List.length_nil]; omega) | (simp [ei, eb, es, ec, c51, gmin, gmax]; done) | simp [ei, eb, es, ec, c51, gmin, gmax]) : Ob p ∧ q := ⟨⟨h⟩, k⟩
/-- (*placard/keyin.Decoder).Tick -/
noncomputable def g15 (a0 : (List Int × Bool × List Int × Int × Bool)) : Option (List (Int × ByteArray × Int × Bool × Bool × Bool) × (List Int × Bool × List Int × Int × Bool)) :=
  if ¬ (a0.2.2.2.2 = true) then
    some (([] : List (Int × ByteArray × Int × Bool × Bool × Bool)), (a0.1, a0.2.1, a0.2.2.1, a0.2.2.2.1, a0.2.2.2.2))
  else
    (
      if a0.2.1 = true then
        some (([] : List (Int × ByteArray × Int × Bool × Bool × Bool)), (a0.1, a0.2.1, a0.2.2.1, a0.2.2.2.1, a0.2.2.2.2))
      else
        (
          if ((a0.1.length : Nat) : Int) = 0 then
            some (([] : List (Int × ByteArray × Int × Bool × Bool × Bool)), (a0.1, a0.2.1, a0.2.2.1, a0.2.2.2.1, a0.2.2.2.2))
          else
            (
              ck (isBytes a0.1) <|
              if (strOf a0.1).data.toList = (lit [27]).data.toList then
                some ([(5, (⟨#[]⟩ : ByteArray), 0, false, false, false)], (([] : List Int), a0.2.1, a0.2.2.1, a0.2.2.2.1, a0.2.2.2.2))
              else
                (
                  if (strOf a0.1).data.toList = (lit [27, 91]).data.toList then
                    (
                      if (strOf a0.1).data.toList = (lit [27, 91]).data.toList then
                        (
                          ck (0 ≤ (1 : Int) ∧ (1 : Int) ≤ ((strOf a0.1).size : Int) ∧ ((strOf a0.1).size : Int) ≤ ((strOf a0.1).size : Int)) <|
                          some ([(1, (strOf a0.1).extract (1 : Int).toNat ((strOf a0.1).size : Int).toNat, 0, true, false, false)], (([] : List Int), a0.2.1, a0.2.2.1, a0.2.2.2.1, a0.2.2.2.2))
                        )
                      else
                        some (([] : List (Int × ByteArray × Int × Bool × Bool × Bool)), (([] : List Int), a0.2.1, a0.2.2.1, a0.2.2.2.1, a0.2.2.2.2))
                    )
                  else
                    (
                      if (strOf a0.1).data.toList = (lit [27, 79]).data.toList then
                        (
                          ck (0 ≤ (1 : Int) ∧ (1 : Int) ≤ ((strOf a0.1).size : Int) ∧ ((strOf a0.1).size : Int) ≤ ((strOf a0.1).size : Int)) <|
                          some ([(1, (strOf a0.1).extract (1 : Int).toNat ((strOf a0.1).size : Int).toNat, 0, true, false, false)], (([] : List Int), a0.2.1, a0.2.2.1, a0.2.2.2.1, a0.2.2.2.2))
                        )
                      else
                        some (([] : List (Int × ByteArray × Int × Bool × Bool × Bool)), (([] : List Int), a0.2.1, a0.2.2.1, a0.2.2.2.1, a0.2.2.2.2))
                    )
                )
            )
        )
    )
noncomputable def k15 : Eng.CS := { f := 15, calm := false, more := 6, ι := (List Int × Bool × List Int × Int × Bool) × (List (Int × ByteArray × Int × Bool × Bool × Bool) × (List Int × Bool × List Int × Int × Bool)), ok := fun i => g15 i.1 = some i.2, rds := fun _ => [], args := fun i => [.w (.lp 0 0)], res := fun i => .own 5, L' := fun i => [(0, .cells 55 [.own 3, bS i.2.2.2.1, .own 4, .v (.int .i64 (i.2.2.2.2.2.1)), bS i.2.2.2.2.2.2]), (3, .arr 5 1 i.2.2.1.length (ei .u8 i.2.2.1)), (4, .arr 5 1 i.2.2.2.2.1.length (ei .u8 i.2.2.2.2.1)), (5, .arr 51 6 i.2.1.length (ec c51 i.2.1))], rn := [(100000, 0, 5, 1), (100000, 2, 5, 1), (0, 0, 51, 6)], keys := 3, L := fun i => [(0, .cells 55 [.own 1, bS i.1.2.1, .own 2, .v (.int .i64 (i.1.2.2.2.1)), bS i.1.2.2.2.2]), (1, .arr 5 1 i.1.1.length (ei .u8 i.1.1)), (2, .arr 5 1 i.1.2.2.1.length (ei .u8 i.1.2.2.1))] }
set_option maxRecDepth 8000 in
set_option maxHeartbeats 4000000 in
theorem k15_ok : CSOk Tryd.prog k15 := by
  refine R.cspec Tryd.func15 nm15 rfl ?_
  rintro ⟨a0, r⟩ hok q _ args hargs
  dsimp only [k15] at hargs ⊢
  match args, hargs with
  | [_], hargs =>
  obtain ⟨rfl, _⟩ := hargs
  refine ⟨envC [] false [], 6, envC_ok (css_nil), ?_⟩
  have H : Gives (g15 a0) (fun a => a = r) := ⟨r, hok, rfl⟩
  unfold g15 at H
  clear hok
  refine if_st H (fun h6 H => ?_) (fun h6 H => ?_)
  · have hfin := fin_st H
    repeat refine mf1_LiftD4 ?_
    first | exact trivial | exact rfl
  · refine if_st H (fun h7 H => ?_) (fun h7 H => ?_)
    · have hfin := fin_st H
      repeat refine mf1_LiftD4 ?_
      first | exact trivial | exact rfl
    · refine if_st H (fun h8 H => ?_) (fun h8 H => ?_)
      · have hfin := fin_st H
        repeat refine mf1_LiftD4 ?_
        first | exact trivial | exact rfl
      · refine ob_str (l := a0.1) H fun h9 H => ?_
        refine if_st H (fun h17 H => ?_) (fun h17 H => ?_)
        · have hfin := fin_st H
          repeat refine mf1_LiftD4 ?_
          first | exact trivial | exact rfl
        · refine if_st H (fun h18 H => ?_) (fun h18 H => ?_)
          · refine if_st H (fun h19 H => ?_) (fun h19 H => ?_)
            · refine ob_ck H fun h20 H => ?_
              have hfin := fin_st H
              repeat refine mf1_LiftD4 ?_
              first | exact trivial | exact rfl
            · have hfin := fin_st H
              repeat refine mf1_LiftD4 ?_
              first | exact trivial | exact rfl
          · refine if_st H (fun h21 H => ?_) (fun h21 H => ?_)
            · refine ob_ck H fun h22 H => ?_
              have hfin := fin_st H
              repeat refine mf1_LiftD4 ?_
              first | exact trivial | exact rfl
            · have hfin := fin_st H
              repeat refine mf1_LiftD4 ?_
              first | exact trivial | exact rfl

/-- (*placard/keyin.Decoder).Feed -/
noncomputable def g9 (a0 : (List Int × Bool × List Int × Int × Bool)) (a1 : List Int) : Option (List (Int × ByteArray × Int × Bool × Bool × Bool) × (List Int × Bool × List Int × Int × Bool)) :=
  if ¬ (a0.2.2.2.2 = true) then
    some (([] : List (Int × ByteArray × Int × Bool × Bool × Bool)), (a0.1, a0.2.1, a0.2.2.1, a0.2.2.2.1, a0.2.2.2.2))
  else
    (
      jn (α := _) (β := List Int × Bool × List Int × Int × List (Int × ByteArray × Int × Bool × Bool × Bool)) (fun k1080 =>
          (loopO (σ := List Int × Bool × List Int × Int × List (Int × ByteArray × Int × Bool × Bool × Bool) × Int) (ρ := List Int × Bool × List Int × Int × List (Int × ByteArray × Int × Bool × Bool × Bool)) (fun s1083 =>
              if s1083.2.2.2.2.2 < ((a1.length : Nat) : Int) then
                (
                  ck (0 ≤ s1083.2.2.2.2.2 ∧ s1083.2.2.2.2.2 < ((a1.length : Nat) : Int)) <|
                  if s1083.2.1 = true then
                    (
                      ck (0 ≤ s1083.2.2.2.1 ∧ s1083.2.2.2.1 < ((lit [27, 91, 50, 48, 49, 126]).size : Int)) <|
                      if (a1.getD s1083.2.2.2.2.2.toNat 0) = (((lit [27, 91, 50, 48, 49, 126]).data.toList[s1083.2.2.2.1.toNat]?.getD 0).toNat : Int) then
                        (
                          ck (inR .i64 (s1083.2.2.2.1 + 1)) <|
                          if (s1083.2.2.2.1 + 1) < 6 then
                            (
                              ck ((s1083.2.2.2.2.1.length + 0) * 40 ≤ 140737488355328) <|
                              ck (inR .i64 (s1083.2.2.2.2.2 + 1)) <|
                              some (.go (s1083.1, s1083.2.1, s1083.2.2.1, s1083.2.2.2.1 + 1, (s1083.2.2.2.2.1 ++ []), s1083.2.2.2.2.2 + 1))
                            )
                          else
                            (
                              ck (0 ≤ (0 : Int) ∧ (0 : Int) ≤ gmin ((s1083.2.2.1.length : Nat) : Int) 65536 ∧ gmin ((s1083.2.2.1.length : Nat) : Int) 65536 ≤ ((s1083.2.2.1.length : Nat) : Int)) <|
                              (g39 ((s1083.2.2.1.drop ((0 : Int).toNat)).take ((gmin ((s1083.2.2.1.length : Nat) : Int) 65536).toNat - (0 : Int).toNat))).bind fun v1596 =>
                              ck ((s1083.2.2.2.2.1.length + 1) * 40 ≤ 140737488355328) <|
                              ck (inR .i64 (s1083.2.2.2.2.2 + 1)) <|
                              some (.go (s1083.1, false, [], 0, (s1083.2.2.2.2.1 ++ [(16, v1596, 0, false, false, false)]), s1083.2.2.2.2.2 + 1))
                            )
                        )
                      else
                        (
                          ck (0 ≤ (0 : Int) ∧ (0 : Int) ≤ s1083.2.2.2.1 ∧ s1083.2.2.2.1 ≤ ((lit [27, 91, 50, 48, 49, 126]).size : Int)) <|
                          ck (inR .i64 (65542 - ((s1083.2.2.1.length : Nat) : Int))) <|
                          ck (0 ≤ (0 : Int) ∧ (0 : Int) ≤ gmax 0 (gmin (65542 - ((s1083.2.2.1.length : Nat) : Int)) (((lit [27, 91, 50, 48, 49, 126]).extract (0 : Int).toNat s1083.2.2.2.1.toNat).size : Int)) ∧ gmax 0 (gmin (65542 - ((s1083.2.2.1.length : Nat) : Int)) (((lit [27, 91, 50, 48, 49, 126]).extract (0 : Int).toNat s1083.2.2.2.1.toNat).size : Int)) ≤ (((lit [27, 91, 50, 48, 49, 126]).extract (0 : Int).toNat s1083.2.2.2.1.toNat).size : Int)) <|
                          ck (s1083.2.2.1.length + (((lit [27, 91, 50, 48, 49, 126]).extract (0 : Int).toNat s1083.2.2.2.1.toNat).extract (0 : Int).toNat (gmax 0 (gmin (65542 - ((s1083.2.2.1.length : Nat) : Int)) (((lit [27, 91, 50, 48, 49, 126]).extract (0 : Int).toNat s1083.2.2.2.1.toNat).size : Int))).toNat).size ≤ 140737488355328) <|
                          ck (0 ≤ (0 : Int) ∧ 0 < ((lit [27, 91, 50, 48, 49, 126]).size : Int)) <|
                          if (a1.getD s1083.2.2.2.2.2.toNat 0) = (((lit [27, 91, 50, 48, 49, 126]).data.toList[(0 : Int).toNat]?.getD 0).toNat : Int) then
                            (
                              ck ((s1083.2.2.2.2.1.length + 0) * 40 ≤ 140737488355328) <|
                              ck (inR .i64 (s1083.2.2.2.2.2 + 1)) <|
                              some (.go (s1083.1, s1083.2.1, (s1083.2.2.1 ++ bytesOf (((lit [27, 91, 50, 48, 49, 126]).extract (0 : Int).toNat s1083.2.2.2.1.toNat).extract (0 : Int).toNat (gmax 0 (gmin (65542 - ((s1083.2.2.1.length : Nat) : Int)) (((lit [27, 91, 50, 48, 49, 126]).extract (0 : Int).toNat s1083.2.2.2.1.toNat).size : Int))).toNat)), 1, (s1083.2.2.2.2.1 ++ []), s1083.2.2.2.2.2 + 1))
                            )
                          else
                            (
                              ck (isBytes ([a1.getD s1083.2.2.2.2.2.toNat 0])) <|
                              ck (inR .i64 (65542 - (((s1083.2.2.1 ++ bytesOf (((lit [27, 91, 50, 48, 49, 126]).extract (0 : Int).toNat s1083.2.2.2.1.toNat).extract (0 : Int).toNat (gmax 0 (gmin (65542 - ((s1083.2.2.1.length : Nat) : Int)) (((lit [27, 91, 50, 48, 49, 126]).extract (0 : Int).toNat s1083.2.2.2.1.toNat).size : Int))).toNat)).length : Nat) : Int))) <|
                              ck (0 ≤ (0 : Int) ∧ (0 : Int) ≤ gmax 0 (gmin (65542 - (((s1083.2.2.1 ++ bytesOf (((lit [27, 91, 50, 48, 49, 126]).extract (0 : Int).toNat s1083.2.2.2.1.toNat).extract (0 : Int).toNat (gmax 0 (gmin (65542 - ((s1083.2.2.1.length : Nat) : Int)) (((lit [27, 91, 50, 48, 49, 126]).extract (0 : Int).toNat s1083.2.2.2.1.toNat).size : Int))).toNat)).length : Nat) : Int)) ((strOf ([a1.getD s1083.2.2.2.2.2.toNat 0])).size : Int)) ∧ gmax 0 (gmin (65542 - (((s1083.2.2.1 ++ bytesOf (((lit [27, 91, 50, 48, 49, 126]).extract (0 : Int).toNat s1083.2.2.2.1.toNat).extract (0 : Int).toNat (gmax 0 (gmin (65542 - ((s1083.2.2.1.length : Nat) : Int)) (((lit [27, 91, 50, 48, 49, 126]).extract (0 : Int).toNat s1083.2.2.2.1.toNat).size : Int))).toNat)).length : Nat) : Int)) ((strOf ([a1.getD s1083.2.2.2.2.2.toNat 0])).size : Int)) ≤ ((strOf ([a1.getD s1083.2.2.2.2.2.toNat 0])).size : Int)) <|
                              ck ((s1083.2.2.1 ++ bytesOf (((lit [27, 91, 50, 48, 49, 126]).extract (0 : Int).toNat s1083.2.2.2.1.toNat).extract (0 : Int).toNat (gmax 0 (gmin (65542 - ((s1083.2.2.1.length : Nat) : Int)) (((lit [27, 91, 50, 48, 49, 126]).extract (0 : Int).toNat s1083.2.2.2.1.toNat).size : Int))).toNat)).length + ((strOf ([a1.getD s1083.2.2.2.2.2.toNat 0])).extract (0 : Int).toNat (gmax 0 (gmin (65542 - (((s1083.2.2.1 ++ bytesOf (((lit [27, 91, 50, 48, 49, 126]).extract (0 : Int).toNat s1083.2.2.2.1.toNat).extract (0 : Int).toNat (gmax 0 (gmin (65542 - ((s1083.2.2.1.length : Nat) : Int)) (((lit [27, 91, 50, 48, 49, 126]).extract (0 : Int).toNat s1083.2.2.2.1.toNat).size : Int))).toNat)).length : Nat) : Int)) ((strOf ([a1.getD s1083.2.2.2.2.2.toNat 0])).size : Int))).toNat).size ≤ 140737488355328) <|
                              ck ((s1083.2.2.2.2.1.length + 0) * 40 ≤ 140737488355328) <|
                              ck (inR .i64 (s1083.2.2.2.2.2 + 1)) <|
                              some (.go (s1083.1, s1083.2.1, ((s1083.2.2.1 ++ bytesOf (((lit [27, 91, 50, 48, 49, 126]).extract (0 : Int).toNat s1083.2.2.2.1.toNat).extract (0 : Int).toNat (gmax 0 (gmin (65542 - ((s1083.2.2.1.length : Nat) : Int)) (((lit [27, 91, 50, 48, 49, 126]).extract (0 : Int).toNat s1083.2.2.2.1.toNat).size : Int))).toNat)) ++ bytesOf ((strOf ([a1.getD s1083.2.2.2.2.2.toNat 0])).extract (0 : Int).toNat (gmax 0 (gmin (65542 - (((s1083.2.2.1 ++ bytesOf (((lit [27, 91, 50, 48, 49, 126]).extract (0 : Int).toNat s1083.2.2.2.1.toNat).extract (0 : Int).toNat (gmax 0 (gmin (65542 - ((s1083.2.2.1.length : Nat) : Int)) (((lit [27, 91, 50, 48, 49, 126]).extract (0 : Int).toNat s1083.2.2.2.1.toNat).size : Int))).toNat)).length : Nat) : Int)) ((strOf ([a1.getD s1083.2.2.2.2.2.toNat 0])).size : Int))).toNat)), 0, (s1083.2.2.2.2.1 ++ []), s1083.2.2.2.2.2 + 1))
                            )
                        )
                    )
                  else
                    (
                      ck ((s1083.1.length + 1) * 1 ≤ 140737488355328) <|
                      jn (α := _) (β := List Int × Bool × List Int × Int × List (Int × ByteArray × Int × Bool × Bool × Bool)) (fun k1730 =>
                          (loopO (σ := List Int × Bool × List Int × Int × List (Int × ByteArray × Int × Bool × Bool × Bool)) (ρ := List Int × Bool × List Int × Int × List (Int × ByteArray × Int × Bool × Bool × Bool)) (fun s1733 =>
                              if 0 < ((s1733.1.length : Nat) : Int) then
                                (
                                  if ¬ (s1733.2.1 = true) then
                                    (
                                      (g32 s1733.1).bind fun v1794 =>
                                      if v1794.1 = 0 then
                                        some (.out (s1733.1, s1733.2.1, s1733.2.2.1, s1733.2.2.2.1, s1733.2.2.2.2))
                                      else
                                        (
                                          ck (0 ≤ v1794.1 ∧ v1794.1 ≤ ((s1733.1.length : Nat) : Int) ∧ ((s1733.1.length : Nat) : Int) ≤ ((s1733.1.length : Nat) : Int)) <|
                                          ck ((0 + (((s1733.1.length : Nat) : Int).toNat - v1794.1.toNat)) * 1 ≤ 140737488355328) <|
                                          jn (α := _) (β := List (Int × ByteArray × Int × Bool × Bool × Bool)) (fun k1812 =>
                                              if v1794.2.2.2.2.2.2.2.1 = true then
                                                (
                                                  ck ((s1733.2.2.2.2.length + 1) * 40 ≤ 140737488355328) <|
                                                  k1812 (s1733.2.2.2.2 ++ [(v1794.2.1, v1794.2.2.1, v1794.2.2.2.1, v1794.2.2.2.2.1, v1794.2.2.2.2.2.1, v1794.2.2.2.2.2.2.1)])
                                                )
                                              else
                                                k1812 s1733.2.2.2.2
                                          ) (fun v1811 =>
                                            if v1794.2.2.2.2.2.2.2.2 = true then
                                              some (.go ((([] : List Int) ++ ((s1733.1.drop v1794.1.toNat).take (((s1733.1.length : Nat) : Int).toNat - v1794.1.toNat))), true, [], 0, v1811))
                                            else
                                              some (.go ((([] : List Int) ++ ((s1733.1.drop v1794.1.toNat).take (((s1733.1.length : Nat) : Int).toNat - v1794.1.toNat))), s1733.2.1, s1733.2.2.1, s1733.2.2.2.1, v1811))
                                          )
                                        )
                                    )
                                  else
                                    some (.out (s1733.1, s1733.2.1, s1733.2.2.1, s1733.2.2.2.1, s1733.2.2.2.2))
                                )
                              else
                                some (.out (s1733.1, s1733.2.1, s1733.2.2.1, s1733.2.2.2.1, s1733.2.2.2.2))
                            ) ((s1083.1 ++ [a1.getD s1083.2.2.2.2.2.toNat 0]), s1083.2.1, s1083.2.2.1, s1083.2.2.2.1, [])).bind fun o1791 =>
                            k1730 (o1791.1, o1791.2.1, o1791.2.2.1, o1791.2.2.2.1, o1791.2.2.2.2)
                      ) (fun v1729 =>
                        ck ((s1083.2.2.2.2.1.length + v1729.2.2.2.2.length) * 40 ≤ 140737488355328) <|
                        ck (inR .i64 (s1083.2.2.2.2.2 + 1)) <|
                        some (.go (v1729.1, v1729.2.1, v1729.2.2.1, v1729.2.2.2.1, (s1083.2.2.2.2.1 ++ v1729.2.2.2.2), s1083.2.2.2.2.2 + 1))
                      )
                    )
                )
              else
                some (.out (s1083.1, s1083.2.1, s1083.2.2.1, s1083.2.2.2.1, s1083.2.2.2.2.1))
            ) (a0.1, a0.2.1, a0.2.2.1, a0.2.2.2.1, [], 0)).bind fun o1579 =>
            k1080 (o1579.1, o1579.2.1, o1579.2.2.1, o1579.2.2.2.1, o1579.2.2.2.2)
      ) (fun v1079 =>
        some (v1079.2.2.2.2, (v1079.1, v1079.2.1, v1079.2.2.1, v1079.2.2.2.1, a0.2.2.2.2))
      )
    )
noncomputable def k9 : Eng.CS := { f := 9, calm := false, more := 6, ι := (List Int × Bool × List Int × Int × Bool) × (List Int) × (List (Int × ByteArray × Int × Bool × Bool × Bool) × (List Int × Bool × List Int × Int × Bool)), ok := fun i => g9 i.1 i.2.1 = some i.2.2, rds := fun _ => [], args := fun i => [.w (.lp 0 0), .sl 1 i.2.1.length (ei .u8 i.2.1)], res := fun i => .own 5, L' := fun i => [(0, .cells 55 [.own 3, bS i.2.2.2.2.1, .own 4, .v (.int .i64 (i.2.2.2.2.2.2.1)), bS i.2.2.2.2.2.2.2]), (3, .arr 5 1 i.2.2.2.1.length (ei .u8 i.2.2.2.1)), (4, .arr 5 1 i.2.2.2.2.2.1.length (ei .u8 i.2.2.2.2.2.1)), (5, .arr 51 6 i.2.2.1.length (ec c51 i.2.2.1))], rn := [(100000, 0, 5, 1), (100000, 2, 5, 1), (0, 0, 51, 6)], keys := 3, L := fun i => [(0, .cells 55 [.own 1, bS i.1.2.1, .own 2, .v (.int .i64 (i.1.2.2.2.1)), bS i.1.2.2.2.2]), (1, .arr 5 1 i.1.1.length (ei .u8 i.1.1)), (2, .arr 5 1 i.1.2.2.1.length (ei .u8 i.1.2.2.1))] }
set_option maxRecDepth 8000 in
set_option maxHeartbeats 4000000 in
theorem k9_ok : CSOk Tryd.prog k9 := by
  refine R.cspec Tryd.func9 nm9 rfl ?_
  rintro ⟨a0, a1, r⟩ hok q _ args hargs
  dsimp only [k9] at hargs ⊢
  match args, hargs with
  | [_, _], hargs =>
  obtain ⟨rfl, ⟨A1, cp1, rfl, hc1, _, hR1⟩, _⟩ := hargs
  refine ⟨envC [k32, k39] false [(9, 7), (24, 11), (24, 15)], 6, envC_ok (css_cons ⟨fun _ => k32_ok, fun h => (by cases h)⟩ (css_cons ⟨fun _ => k39_ok, fun h => (by cases h)⟩ (css_nil))), ?_⟩
  have H : Gives (g9 a0 a1) (fun a => a = r) := ⟨r, hok, rfl⟩
  unfold g9 at H
  clear hok
  refine if_st H (fun h24 H => ?_) (fun h24 H => ?_)
  · have hfin := fin_st H
    repeat refine mf1_LiftD4 ?_
    first | exact trivial | exact rfl
  · refine R.cut_fam H 36 [5] [] (fun v1079 => []) (fun v1079 => [(0, .cells 55 [.own 36, bS v1079.2.1, .own 37, .v (.int .i64 (v1079.2.2.2.1)), bS a0.2.2.2.2]), (14, .cells 26 [.own 38]), (36, .arr 5 1 (v1079.1.length) (ei .u8 (v1079.1))), (37, .arr 5 1 (v1079.2.2.1.length) (ei .u8 (v1079.2.2.1))), (38, .arr 51 6 (v1079.2.2.2.2.length) (ec c51 (v1079.2.2.2.2)))]) [(3, .cells 24 [.lp 0 0])] 3 (fun H => ?_)
    refine And.intro ?_ ?_
    · refine R.loop_fam (bind_st H) [0, 5, 6] [(100000, 2, 5, 1), (100014, 0, 51, 6)] (fun _ s1083 => [(7, .v (.int .i64 (s1083.2.2.2.2.2)))]) (fun _ s1083 => [(0, .cells 55 [.own 27, bS s1083.2.1, .own 28, .v (.int .i64 (s1083.2.2.2.1)), bS a0.2.2.2.2]), (14, .cells 26 [.own 29]), (27, .arr 5 1 (s1083.1.length) (ei .u8 (s1083.1))), (28, .arr 5 1 (s1083.2.2.1.length) (ei .u8 (s1083.2.2.1))), (29, .arr 51 6 (s1083.2.2.2.2.1.length) (ec c51 (s1083.2.2.2.2.1)))]) 3 (fun n1827 H => ?_)
      refine ⟨(n1827, _), ⟨H⟩, ⟨trivial⟩, ?_⟩
      repeat refine mo1_LiftD4 ?_
      rintro ⟨m0, s1083⟩ H _
      obtain ⟨m1084, hm0, H⟩ := IG_succ H
      dsimp only at hm0
      subst hm0
      try dsimp only at H
      refine if_st H (fun h1580 H => ?_) (fun h1580 H => ?_)
      · refine ob_ix hR1 (fun h => ei0 h) H fun h1581 H => ?_
        refine ld_int (e := a1.getD s1083.2.2.2.2.2.toNat 0) (rd_get hR1 (ei_get (l := a1) (tn h1581))) ?_
        refine And.intro ⟨by kernel_rfl⟩ ?_
        refine ⟨(Pn.calm 0 (Pn.calm 1 (Pn.calm 2 (Pn.calm 3 (Pn.calm 4 (Pn.eff 5 [3, 4, 2, 1] (Pn.eff 6 [0, 5, 3, 4, 2, 1] (Pn.eff 7 [6, 0, 1, 2, 3, 4, 5] Pn.done Pn.no) Pn.no) Pn.no)))))), ⟨by kernel_rfl⟩, ?_⟩
        refine And.intro ?_ trivial
        refine if_st H (fun h1582 H => ?_) (fun h1582 H => ?_)
        · refine ob_ck H fun h1583 H => ?_
          refine if_st H (fun h1584 H => ?_) (fun h1584 H => ?_)
          · refine ob_ck H fun h1585 H => ?_
            refine if_st H (fun h1586 H => ?_) (fun h1586 H => ?_)
            · refine And.intro ⟨fun _ _ _ h => h⟩ ?_
              refine And.intro ?_ trivial
              refine rs_st (xs := []) Reads.nil rfl ?_
              refine ob_app (by decide) (by first | exact (ec_one c51_one) | ((repeat (refine List.forall_mem_cons.2 ⟨rfl, ?_⟩)); intro y hy; cases hy; done) | (intro y hy; simp [ei, eb, es, ec, c51] at hy; (first | (rcases hy with rfl | hy) | subst hy | skip); all_goals first | rfl | simp_all [Value.oneCell'])) H fun h1587 H => ?_
              intro n1588 zs1590 hn1589 hz1591
              obtain rfl : n1588 = (s1083.2.2.2.2.1 ++ []).length := hn1589.trans (by first | exact List.length_append.symm | (simp; done) | (simp; omega))
              obtain rfl : zs1590 = ec c51 (s1083.2.2.2.2.1 ++ []) := by first | exact hz1591.trans (ec_app (xs := s1083.2.2.2.2.1) (ys := ([]))).symm | (rw [hz1591, ec_vw]; first | exact ec_app.symm | exact (ec_app (xs := s1083.2.2.2.2.1)).symm) | (rw [hz1591]; simp [ei, eb, es, ec, c51])
              refine And.intro ⟨fun _ _ _ h => h⟩ ?_
              refine And.intro ?_ trivial
              refine And.intro ⟨fun _ _ _ h => h⟩ ?_
              refine ob_ck H fun h1592 H => ?_
              replace H := some_st H
              refine ⟨(m1084, (s1083.1, s1083.2.1, s1083.2.2.1, s1083.2.2.2.1 + 1, (s1083.2.2.2.2.1 ++ []), s1083.2.2.2.2.2 + 1)), ⟨H, Nat.lt_succ_self _⟩, ⟨trivial⟩, ⟨rfl⟩, ?_⟩
              repeat refine mo1_LiftD4 ?_
              first | exact trivial | exact rfl
            · refine And.intro ⟨by kernel_rfl⟩ ?_
              refine ob_ck H fun h1593 H => ?_
              try dsimp only at h1593
              intro n1594 hn1595
              subst hn1595
              obtain ⟨v1596, hv1597, H⟩ := call_st H
              refine ⟨(((s1083.2.2.1.drop ((0 : Int).toNat)).take ((gmin ((s1083.2.2.1.length : Nat) : Int) 65536).toNat - (0 : Int).toNat)), v1596), ⟨hv1597⟩, ⟨trivial⟩, ?_⟩
              refine And.intro ⟨(len_vw (by first | omega | (dsimp only; omega))).symm, by first | omega | (dsimp only; omega), ei_vw⟩ ?_
              refine And.intro ⟨fun _ _ _ h => h⟩ ?_
              refine And.intro ?_ trivial
              refine ob_app (by decide) (by first | exact (ec_one c51_one) | ((repeat (refine List.forall_mem_cons.2 ⟨rfl, ?_⟩)); intro y hy; cases hy; done) | (intro y hy; simp [ei, eb, es, ec, c51] at hy; (first | (rcases hy with rfl | hy) | subst hy | skip); all_goals first | rfl | simp_all [Value.oneCell'])) H fun h1598 H => ?_
              intro n1599 zs1601 hn1600 hz1602
              obtain rfl : n1599 = (s1083.2.2.2.2.1 ++ [(16, v1596, 0, false, false, false)]).length := hn1600.trans (by first | exact List.length_append.symm | (simp; done) | (simp; omega))
              obtain rfl : zs1601 = ec c51 (s1083.2.2.2.2.1 ++ [(16, v1596, 0, false, false, false)]) := by first | exact hz1602.trans (ec_app (xs := s1083.2.2.2.2.1) (ys := ([(16, v1596, 0, false, false, false)]))).symm | (rw [hz1602, ec_vw]; first | exact ec_app.symm | exact (ec_app (xs := s1083.2.2.2.2.1)).symm) | (rw [hz1602]; simp [ei, eb, es, ec, c51])
              refine And.intro ⟨fun _ _ _ h => h⟩ ?_
              refine And.intro ?_ trivial
              refine And.intro ⟨fun _ _ _ h => h⟩ ?_
              refine ob_ck H fun h1603 H => ?_
              replace H := some_st H
              refine ⟨(m1084, (s1083.1, false, [], 0, (s1083.2.2.2.2.1 ++ [(16, v1596, 0, false, false, false)]), s1083.2.2.2.2.2 + 1)), ⟨H, Nat.lt_succ_self _⟩, ⟨trivial⟩, ⟨rfl⟩, ?_⟩
              repeat refine mo1_LiftD4 ?_
              first | exact trivial | exact rfl
          · refine ob_ck H fun h1604 H => ?_
            refine ob_ck H fun h1605 H => ?_
            refine And.intro ⟨by kernel_rfl⟩ ?_
            refine ⟨(Pn.calm 0 (Pn.calm 1 (Pn.calm 2 (Pn.calm 3 (Pn.calm 4 (Pn.calm 5 (Pn.calm 6 (Pn.calm 7 (Pn.calm 8 (Pn.calm 9 (Pn.calm 10 (Pn.calm 11 (Pn.eff 12 [4, 11, 3, 5, 10, 2, 9, 1, 6, 8, 7] (Pn.calm 13 (Pn.calm 14 (Pn.eff 15 [14, 12, 0, 1, 2, 3, 4, 5, 6, 7, 8, 9, 10, 11, 13] Pn.done Pn.no))) Pn.no))))))))))))), ⟨by kernel_rfl⟩, ?_⟩
            refine ob_ck H fun h1606 H => ?_
            refine And.intro ?_ trivial
            refine ob_ck H fun h1607 H => ?_
            intro n1608 zs1610 hn1609 hz1611
            obtain rfl : n1608 = (s1083.2.2.1 ++ bytesOf (((lit [27, 91, 50, 48, 49, 126]).extract (0 : Int).toNat s1083.2.2.2.1.toNat).extract (0 : Int).toNat (gmax 0 (gmin (65542 - ((s1083.2.2.1.length : Nat) : Int)) (((lit [27, 91, 50, 48, 49, 126]).extract (0 : Int).toNat s1083.2.2.2.1.toNat).size : Int))).toNat)).length := hn1609.trans (len_appS (xs := s1083.2.2.1) (s := (((lit [27, 91, 50, 48, 49, 126]).extract (0 : Int).toNat s1083.2.2.2.1.toNat).extract (0 : Int).toNat (gmax 0 (gmin (65542 - ((s1083.2.2.1.length : Nat) : Int)) (((lit [27, 91, 50, 48, 49, 126]).extract (0 : Int).toNat s1083.2.2.2.1.toNat).size : Int))).toNat)))
            obtain rfl : zs1610 = ei .u8 (s1083.2.2.1 ++ bytesOf (((lit [27, 91, 50, 48, 49, 126]).extract (0 : Int).toNat s1083.2.2.2.1.toNat).extract (0 : Int).toNat (gmax 0 (gmin (65542 - ((s1083.2.2.1.length : Nat) : Int)) (((lit [27, 91, 50, 48, 49, 126]).extract (0 : Int).toNat s1083.2.2.2.1.toNat).size : Int))).toNat)) := hz1611.trans (ei_appS (xs := s1083.2.2.1) (s := (((lit [27, 91, 50, 48, 49, 126]).extract (0 : Int).toNat s1083.2.2.2.1.toNat).extract (0 : Int).toNat (gmax 0 (gmin (65542 - ((s1083.2.2.1.length : Nat) : Int)) (((lit [27, 91, 50, 48, 49, 126]).extract (0 : Int).toNat s1083.2.2.2.1.toNat).size : Int))).toNat)))
            refine And.intro ⟨fun _ _ _ h => h⟩ ?_
            refine And.intro ?_ trivial
            refine And.intro ⟨fun _ _ _ h => h⟩ ?_
            refine ob_ck H fun h1612 H => ?_
            refine if_st H (fun h1613 H => ?_) (fun h1613 H => ?_)
            · refine And.intro ⟨fun _ _ _ h => h⟩ ?_
              refine And.intro ?_ trivial
              refine rs_st (xs := []) Reads.nil rfl ?_
              refine ob_app (by decide) (by first | exact (ec_one c51_one) | ((repeat (refine List.forall_mem_cons.2 ⟨rfl, ?_⟩)); intro y hy; cases hy; done) | (intro y hy; simp [ei, eb, es, ec, c51] at hy; (first | (rcases hy with rfl | hy) | subst hy | skip); all_goals first | rfl | simp_all [Value.oneCell'])) H fun h1614 H => ?_
              intro n1615 zs1617 hn1616 hz1618
              obtain rfl : n1615 = (s1083.2.2.2.2.1 ++ []).length := hn1616.trans (by first | exact List.length_append.symm | (simp; done) | (simp; omega))
              obtain rfl : zs1617 = ec c51 (s1083.2.2.2.2.1 ++ []) := by first | exact hz1618.trans (ec_app (xs := s1083.2.2.2.2.1) (ys := ([]))).symm | (rw [hz1618, ec_vw]; first | exact ec_app.symm | exact (ec_app (xs := s1083.2.2.2.2.1)).symm) | (rw [hz1618]; simp [ei, eb, es, ec, c51])
              refine And.intro ⟨fun _ _ _ h => h⟩ ?_
              refine And.intro ?_ trivial
              refine And.intro ⟨fun _ _ _ h => h⟩ ?_
              refine ob_ck H fun h1619 H => ?_
              replace H := some_st H
              refine ⟨(m1084, (s1083.1, s1083.2.1, (s1083.2.2.1 ++ bytesOf (((lit [27, 91, 50, 48, 49, 126]).extract (0 : Int).toNat s1083.2.2.2.1.toNat).extract (0 : Int).toNat (gmax 0 (gmin (65542 - ((s1083.2.2.1.length : Nat) : Int)) (((lit [27, 91, 50, 48, 49, 126]).extract (0 : Int).toNat s1083.2.2.2.1.toNat).size : Int))).toNat)), 1, (s1083.2.2.2.2.1 ++ []), s1083.2.2.2.2.2 + 1)), ⟨H, Nat.lt_succ_self _⟩, ⟨trivial⟩, ⟨rfl⟩, ?_⟩
              repeat refine mo1_LiftD4 ?_
              first | exact trivial | exact rfl
            · refine ob_str (l := [a1.getD s1083.2.2.2.2.2.toNat 0]) H fun h1620 H => ?_
              refine ob_ck H fun h1621 H => ?_
              refine And.intro ⟨by kernel_rfl⟩ ?_
              refine ⟨(Pn.calm 0 (Pn.calm 1 (Pn.calm 2 (Pn.calm 3 (Pn.calm 4 (Pn.calm 5 (Pn.calm 6 (Pn.calm 7 (Pn.calm 8 (Pn.calm 9 (Pn.calm 10 (Pn.calm 11 (Pn.eff 12 [4, 11, 3, 5, 10, 2, 9, 1, 6, 8, 7] (Pn.calm 13 (Pn.calm 14 (Pn.eff 15 [14, 12, 0, 1, 2, 3, 4, 5, 6, 7, 8, 9, 10, 11, 13] Pn.done Pn.no))) Pn.no))))))))))))), ⟨by kernel_rfl⟩, ?_⟩
              refine ob_ck H fun h1622 H => ?_
              refine And.intro ?_ trivial
              refine ob_ck H fun h1623 H => ?_
              intro n1624 zs1626 hn1625 hz1627
              obtain rfl : n1624 = ((s1083.2.2.1 ++ bytesOf (((lit [27, 91, 50, 48, 49, 126]).extract (0 : Int).toNat s1083.2.2.2.1.toNat).extract (0 : Int).toNat (gmax 0 (gmin (65542 - ((s1083.2.2.1.length : Nat) : Int)) (((lit [27, 91, 50, 48, 49, 126]).extract (0 : Int).toNat s1083.2.2.2.1.toNat).size : Int))).toNat)) ++ bytesOf ((strOf ([a1.getD s1083.2.2.2.2.2.toNat 0])).extract (0 : Int).toNat (gmax 0 (gmin (65542 - (((s1083.2.2.1 ++ bytesOf (((lit [27, 91, 50, 48, 49, 126]).extract (0 : Int).toNat s1083.2.2.2.1.toNat).extract (0 : Int).toNat (gmax 0 (gmin (65542 - ((s1083.2.2.1.length : Nat) : Int)) (((lit [27, 91, 50, 48, 49, 126]).extract (0 : Int).toNat s1083.2.2.2.1.toNat).size : Int))).toNat)).length : Nat) : Int)) ((strOf ([a1.getD s1083.2.2.2.2.2.toNat 0])).size : Int))).toNat)).length := hn1625.trans (len_appS (xs := (s1083.2.2.1 ++ bytesOf (((lit [27, 91, 50, 48, 49, 126]).extract (0 : Int).toNat s1083.2.2.2.1.toNat).extract (0 : Int).toNat (gmax 0 (gmin (65542 - ((s1083.2.2.1.length : Nat) : Int)) (((lit [27, 91, 50, 48, 49, 126]).extract (0 : Int).toNat s1083.2.2.2.1.toNat).size : Int))).toNat))) (s := ((strOf ([a1.getD s1083.2.2.2.2.2.toNat 0])).extract (0 : Int).toNat (gmax 0 (gmin (65542 - (((s1083.2.2.1 ++ bytesOf (((lit [27, 91, 50, 48, 49, 126]).extract (0 : Int).toNat s1083.2.2.2.1.toNat).extract (0 : Int).toNat (gmax 0 (gmin (65542 - ((s1083.2.2.1.length : Nat) : Int)) (((lit [27, 91, 50, 48, 49, 126]).extract (0 : Int).toNat s1083.2.2.2.1.toNat).size : Int))).toNat)).length : Nat) : Int)) ((strOf ([a1.getD s1083.2.2.2.2.2.toNat 0])).size : Int))).toNat)))
              obtain rfl : zs1626 = ei .u8 ((s1083.2.2.1 ++ bytesOf (((lit [27, 91, 50, 48, 49, 126]).extract (0 : Int).toNat s1083.2.2.2.1.toNat).extract (0 : Int).toNat (gmax 0 (gmin (65542 - ((s1083.2.2.1.length : Nat) : Int)) (((lit [27, 91, 50, 48, 49, 126]).extract (0 : Int).toNat s1083.2.2.2.1.toNat).size : Int))).toNat)) ++ bytesOf ((strOf ([a1.getD s1083.2.2.2.2.2.toNat 0])).extract (0 : Int).toNat (gmax 0 (gmin (65542 - (((s1083.2.2.1 ++ bytesOf (((lit [27, 91, 50, 48, 49, 126]).extract (0 : Int).toNat s1083.2.2.2.1.toNat).extract (0 : Int).toNat (gmax 0 (gmin (65542 - ((s1083.2.2.1.length : Nat) : Int)) (((lit [27, 91, 50, 48, 49, 126]).extract (0 : Int).toNat s1083.2.2.2.1.toNat).size : Int))).toNat)).length : Nat) : Int)) ((strOf ([a1.getD s1083.2.2.2.2.2.toNat 0])).size : Int))).toNat)) := hz1627.trans (ei_appS (xs := (s1083.2.2.1 ++ bytesOf (((lit [27, 91, 50, 48, 49, 126]).extract (0 : Int).toNat s1083.2.2.2.1.toNat).extract (0 : Int).toNat (gmax 0 (gmin (65542 - ((s1083.2.2.1.length : Nat) : Int)) (((lit [27, 91, 50, 48, 49, 126]).extract (0 : Int).toNat s1083.2.2.2.1.toNat).size : Int))).toNat))) (s := ((strOf ([a1.getD s1083.2.2.2.2.2.toNat 0])).extract (0 : Int).toNat (gmax 0 (gmin (65542 - (((s1083.2.2.1 ++ bytesOf (((lit [27, 91, 50, 48, 49, 126]).extract (0 : Int).toNat s1083.2.2.2.1.toNat).extract (0 : Int).toNat (gmax 0 (gmin (65542 - ((s1083.2.2.1.length : Nat) : Int)) (((lit [27, 91, 50, 48, 49, 126]).extract (0 : Int).toNat s1083.2.2.2.1.toNat).size : Int))).toNat)).length : Nat) : Int)) ((strOf ([a1.getD s1083.2.2.2.2.2.toNat 0])).size : Int))).toNat)))
              refine And.intro ⟨fun _ _ _ h => h⟩ ?_
              refine And.intro ?_ trivial
              refine And.intro ⟨fun _ _ _ h => h⟩ ?_
              refine And.intro ⟨fun _ _ _ h => h⟩ ?_
              refine And.intro ?_ trivial
              refine rs_st (xs := []) Reads.nil rfl ?_
              refine ob_app (by decide) (by first | exact (ec_one c51_one) | ((repeat (refine List.forall_mem_cons.2 ⟨rfl, ?_⟩)); intro y hy; cases hy; done) | (intro y hy; simp [ei, eb, es, ec, c51] at hy; (first | (rcases hy with rfl | hy) | subst hy | skip); all_goals first | rfl | simp_all [Value.oneCell'])) H fun h1628 H => ?_
              intro n1629 zs1631 hn1630 hz1632
              obtain rfl : n1629 = (s1083.2.2.2.2.1 ++ []).length := hn1630.trans (by first | exact List.length_append.symm | (simp; done) | (simp; omega))
              obtain rfl : zs1631 = ec c51 (s1083.2.2.2.2.1 ++ []) := by first | exact hz1632.trans (ec_app (xs := s1083.2.2.2.2.1) (ys := ([]))).symm | (rw [hz1632, ec_vw]; first | exact ec_app.symm | exact (ec_app (xs := s1083.2.2.2.2.1)).symm) | (rw [hz1632]; simp [ei, eb, es, ec, c51])
              refine And.intro ⟨fun _ _ _ h => h⟩ ?_
              refine And.intro ?_ trivial
              refine And.intro ⟨fun _ _ _ h => h⟩ ?_
              refine ob_ck H fun h1633 H => ?_
              replace H := some_st H
              refine ⟨(m1084, (s1083.1, s1083.2.1, ((s1083.2.2.1 ++ bytesOf (((lit [27, 91, 50, 48, 49, 126]).extract (0 : Int).toNat s1083.2.2.2.1.toNat).extract (0 : Int).toNat (gmax 0 (gmin (65542 - ((s1083.2.2.1.length : Nat) : Int)) (((lit [27, 91, 50, 48, 49, 126]).extract (0 : Int).toNat s1083.2.2.2.1.toNat).size : Int))).toNat)) ++ bytesOf ((strOf ([a1.getD s1083.2.2.2.2.2.toNat 0])).extract (0 : Int).toNat (gmax 0 (gmin (65542 - (((s1083.2.2.1 ++ bytesOf (((lit [27, 91, 50, 48, 49, 126]).extract (0 : Int).toNat s1083.2.2.2.1.toNat).extract (0 : Int).toNat (gmax 0 (gmin (65542 - ((s1083.2.2.1.length : Nat) : Int)) (((lit [27, 91, 50, 48, 49, 126]).extract (0 : Int).toNat s1083.2.2.2.1.toNat).size : Int))).toNat)).length : Nat) : Int)) ((strOf ([a1.getD s1083.2.2.2.2.2.toNat 0])).size : Int))).toNat)), 0, (s1083.2.2.2.2.1 ++ []), s1083.2.2.2.2.2 + 1)), ⟨H, Nat.lt_succ_self _⟩, ⟨trivial⟩, ⟨rfl⟩, ?_⟩
              repeat refine mo1_LiftD4 ?_
              first | exact trivial | exact rfl
        · refine ob_app (by decide) (by first | exact ei_one | ((repeat (refine List.forall_mem_cons.2 ⟨rfl, ?_⟩)); intro y hy; cases hy; done) | (intro y hy; simp [ei, eb, es, ec, c51] at hy; (first | (rcases hy with rfl | hy) | subst hy | skip); all_goals first | rfl | simp_all [Value.oneCell'])) H fun h1634 H => ?_
          intro n1635 zs1637 hn1636 hz1638
          obtain rfl : n1635 = (s1083.1 ++ [a1.getD s1083.2.2.2.2.2.toNat 0]).length := hn1636.trans (by first | exact List.length_append.symm | (simp; done) | (simp; omega))
          obtain rfl : zs1637 = ei .u8 (s1083.1 ++ [a1.getD s1083.2.2.2.2.2.toNat 0]) := by first | exact hz1638.trans (ei_app (xs := s1083.1) (ys := ([a1.getD s1083.2.2.2.2.2.toNat 0]))).symm | (rw [hz1638, ei_vw]; first | exact ei_app.symm | exact (ei_app (xs := s1083.1)).symm) | (rw [hz1638]; simp [ei, eb, es, ec, c51])
          refine R.cut_fam H 89 [] [] (fun v1729 => [(5, .own 91)]) (fun v1729 => [(0, .cells 55 [.own 89, bS v1729.2.1, .own 90, .v (.int .i64 (v1729.2.2.2.1)), bS a0.2.2.2.2]), (89, .arr 5 1 (v1729.1.length) (ei .u8 (v1729.1))), (90, .arr 5 1 (v1729.2.2.1.length) (ei .u8 (v1729.2.2.1))), (91, .arr 51 6 (v1729.2.2.2.2.length) (ec c51 (v1729.2.2.2.2)))]) [(29, .arr 51 6 (s1083.2.2.2.2.1.length) (ec c51 (s1083.2.2.2.2.1))), (3, .cells 24 [.lp 0 0]), (17, .cells 22 [.v (.slice (A1) (a1.length) (cp1))]), (21, .loop .busy none), (22, .dfr), (51, .arr 5 1 (1) (ei .u8 ([a1.getD s1083.2.2.2.2.2.toNat 0])))] 3 (fun H => ?_)
          refine And.intro ?_ ?_
          · refine R.loop_fam (bind_st H) [0] [(100000, 2, 5, 1), (5, 0, 51, 6)] (fun _ s1733 => [(5, .own 60)]) (fun _ s1733 => [(0, .cells 55 [.own 58, bS s1733.2.1, .own 59, .v (.int .i64 (s1733.2.2.2.1)), bS a0.2.2.2.2]), (58, .arr 5 1 (s1733.1.length) (ei .u8 (s1733.1))), (59, .arr 5 1 (s1733.2.2.1.length) (ei .u8 (s1733.2.2.1))), (60, .arr 51 6 (s1733.2.2.2.2.length) (ec c51 (s1733.2.2.2.2)))]) 3 (fun n1820 H => ?_)
            refine ⟨(n1820, _), ⟨H⟩, ⟨trivial⟩, ?_⟩
            repeat refine mo1_LiftD4 ?_
            rintro ⟨m0, s1733⟩ H _
            obtain ⟨m1734, hm0, H⟩ := IG_succ H
            dsimp only at hm0
            subst hm0
            try dsimp only at H
            refine if_st H (fun h1792 H => ?_) (fun h1792 H => ?_)
            · refine if_st H (fun h1793 H => ?_) (fun h1793 H => ?_)
              · obtain ⟨v1794, hv1795, H⟩ := call_st H
                refine ⟨(s1733.1, v1794), ⟨hv1795⟩, ⟨trivial⟩, ?_⟩
                refine And.intro ⟨by first | rfl | (simp; done), by first | rfl | (simp [ei, eb, es, ec, c51]; done) | (simp only [ei, eb, es, ec, c51, List.map_append, List.nil_append, List.append_assoc]; rfl)⟩ ?_
                refine if_st H (fun h1796 H => ?_) (fun h1796 H => ?_)
                · replace H := some_st H
                  dsimp only [stp, sm] at H
                  refine ⟨(s1733.1, s1733.2.1, s1733.2.2.1, s1733.2.2.2.1, s1733.2.2.2.2), ⟨H⟩, ⟨rfl⟩, ?_⟩
                  repeat refine mo1_LiftD4 ?_
                  first | exact trivial | exact rfl
                · refine And.intro ⟨by kernel_rfl⟩ ?_
                  refine ⟨(Pn.calm 0 (Pn.calm 2 (Pn.calm 3 (Pn.calm 4 (Pn.calm 5 (Pn.calm 6 (Pn.calm 7 (Pn.calm 8 (Pn.eff 1 [] (Pn.eff 9 [1, 8, 5, 7, 4, 6, 3, 2] (Pn.calm 10 (Pn.calm 11 (Pn.eff 12 [11, 9, 0, 1, 2, 3, 4, 5, 6, 7, 8, 10] Pn.done Pn.no))) Pn.no) Pn.no))))))))), ⟨by kernel_rfl⟩, ?_⟩
                  refine ob_ck H fun h1797 H => ?_
                  try dsimp only at h1797
                  intro n1798 hn1799
                  subst hn1799
                  refine And.intro ?_ trivial
                  refine And.intro ⟨fun _ _ _ h => h⟩ ?_
                  refine And.intro ?_ trivial
                  refine And.intro ⟨by first | omega | (dsimp only; omega)⟩ ?_
                  refine ob_app (by decide) (by first | exact (vw_one ei_one) | ((repeat (refine List.forall_mem_cons.2 ⟨rfl, ?_⟩)); intro y hy; cases hy; done) | (intro y hy; simp [ei, eb, es, ec, c51] at hy; (first | (rcases hy with rfl | hy) | subst hy | skip); all_goals first | rfl | simp_all [Value.oneCell'])) H fun h1800 H => ?_
                  intro n1801 zs1803 hn1802 hz1804
                  obtain rfl : n1801 = (([] : List Int) ++ ((s1733.1.drop v1794.1.toNat).take (((s1733.1.length : Nat) : Int).toNat - v1794.1.toNat))).length := hn1802.trans (by first | exact List.length_append.symm | (simp; done) | (simp; omega))
                  obtain rfl : zs1803 = ei .u8 (([] : List Int) ++ ((s1733.1.drop v1794.1.toNat).take (((s1733.1.length : Nat) : Int).toNat - v1794.1.toNat))) := by first | exact hz1804.trans (ei_app (xs := ([] : List Int)) (ys := ((s1733.1.drop v1794.1.toNat).take (((s1733.1.length : Nat) : Int).toNat - v1794.1.toNat)))).symm | (rw [hz1804, ei_vw]; first | exact ei_app.symm | exact (ei_app (xs := ([] : List Int))).symm) | (rw [hz1804]; simp [ei, eb, es, ec, c51])
                  refine And.intro ⟨fun _ _ _ h => h⟩ ?_
                  refine And.intro ?_ trivial
                  refine And.intro ⟨fun _ _ _ h => h⟩ ?_
                  refine R.cut_fam H 96 [0, 6, 31, 32, 33, 34, 35] [] (fun v1811 => [(5, .own 96)]) (fun v1811 => [(96, .arr 51 6 (v1811.length) (ec c51 (v1811)))]) [(59, .arr 5 1 (s1733.2.2.1.length) (ei .u8 (s1733.2.2.1))), (29, .arr 51 6 (s1083.2.2.2.2.1.length) (ec c51 (s1083.2.2.2.2.1))), (3, .cells 24 [.lp 0 0]), (17, .cells 22 [.v (.slice (A1) (a1.length) (cp1))]), (21, .loop .busy none), (22, .dfr), (51, .arr 5 1 (1) (ei .u8 ([a1.getD s1083.2.2.2.2.2.toNat 0]))), (0, .cells 55 [.own 85, bS s1733.2.1, .own 59, .v (.int .i64 (s1733.2.2.2.1)), bS a0.2.2.2.2]), (58, .arr 5 1 (s1733.1.length) (ei .u8 (s1733.1))), (79, .cells 71 [.v (.int .i64 (v1794.1)), .v (.int .i64 (v1794.2.1)), .v (.string (v1794.2.2.1)), .v (.int .i64 (v1794.2.2.2.1)), bS v1794.2.2.2.2.1, bS v1794.2.2.2.2.2.1, bS v1794.2.2.2.2.2.2.1, bS v1794.2.2.2.2.2.2.2.1, bS v1794.2.2.2.2.2.2.2.2]), (85, .arr 5 1 ((([] : List Int) ++ ((s1733.1.drop v1794.1.toNat).take (((s1733.1.length : Nat) : Int).toNat - v1794.1.toNat))).length) (ei .u8 ((([] : List Int) ++ ((s1733.1.drop v1794.1.toNat).take (((s1733.1.length : Nat) : Int).toNat - v1794.1.toNat))))))] 1 (fun H => ?_)
                  refine And.intro ?_ ?_
                  · refine if_st H (fun h1813 H => ?_) (fun h1813 H => ?_)
                    · refine ob_app (by decide) (by first | exact (ec_one c51_one) | ((repeat (refine List.forall_mem_cons.2 ⟨rfl, ?_⟩)); intro y hy; cases hy; done) | (intro y hy; simp [ei, eb, es, ec, c51] at hy; (first | (rcases hy with rfl | hy) | subst hy | skip); all_goals first | rfl | simp_all [Value.oneCell'])) H fun h1814 H => ?_
                      intro n1815 zs1817 hn1816 hz1818
                      obtain rfl : n1815 = (s1733.2.2.2.2 ++ [(v1794.2.1, v1794.2.2.1, v1794.2.2.2.1, v1794.2.2.2.2.1, v1794.2.2.2.2.2.1, v1794.2.2.2.2.2.2.1)]).length := hn1816.trans (by first | exact List.length_append.symm | (simp; done) | (simp; omega))
                      obtain rfl : zs1817 = ec c51 (s1733.2.2.2.2 ++ [(v1794.2.1, v1794.2.2.1, v1794.2.2.2.1, v1794.2.2.2.2.1, v1794.2.2.2.2.2.1, v1794.2.2.2.2.2.2.1)]) := by first | exact hz1818.trans (ec_app (xs := s1733.2.2.2.2) (ys := ([(v1794.2.1, v1794.2.2.1, v1794.2.2.2.1, v1794.2.2.2.2.1, v1794.2.2.2.2.2.1, v1794.2.2.2.2.2.2.1)]))).symm | (rw [hz1818, ec_vw]; first | exact ec_app.symm | exact (ec_app (xs := s1733.2.2.2.2)).symm) | (rw [hz1818]; simp [ei, eb, es, ec, c51])
                      refine ⟨(s1733.2.2.2.2 ++ [(v1794.2.1, v1794.2.2.1, v1794.2.2.2.1, v1794.2.2.2.2.1, v1794.2.2.2.2.2.1, v1794.2.2.2.2.2.2.1)]), ⟨H⟩, ⟨rfl⟩, ?_⟩
                      repeat refine mo1_LiftD4 ?_
                      first | exact trivial | exact rfl
                    · refine ⟨s1733.2.2.2.2, ⟨H⟩, ⟨rfl⟩, ?_⟩
                      repeat refine mo1_LiftD4 ?_
                      first | exact trivial | exact rfl
                  · intro v1811 H
                    refine if_st H (fun h1819 H => ?_) (fun h1819 H => ?_)
                    · replace H := some_st H
                      refine ⟨(m1734, ((([] : List Int) ++ ((s1733.1.drop v1794.1.toNat).take (((s1733.1.length : Nat) : Int).toNat - v1794.1.toNat))), true, [], 0, v1811)), ⟨H, Nat.lt_succ_self _⟩, ⟨trivial⟩, ⟨rfl⟩, ?_⟩
                      repeat refine mo1_LiftD4 ?_
                      first | exact trivial | exact rfl
                    · replace H := some_st H
                      refine ⟨(m1734, ((([] : List Int) ++ ((s1733.1.drop v1794.1.toNat).take (((s1733.1.length : Nat) : Int).toNat - v1794.1.toNat))), s1733.2.1, s1733.2.2.1, s1733.2.2.2.1, v1811)), ⟨H, Nat.lt_succ_self _⟩, ⟨trivial⟩, ⟨rfl⟩, ?_⟩
                      repeat refine mo1_LiftD4 ?_
                      first | exact trivial | exact rfl
              · replace H := some_st H
                dsimp only [stp, sm] at H
                refine ⟨(s1733.1, s1733.2.1, s1733.2.2.1, s1733.2.2.2.1, s1733.2.2.2.2), ⟨H⟩, ⟨rfl⟩, ?_⟩
                repeat refine mo1_LiftD4 ?_
                first | exact trivial | exact rfl
            · replace H := some_st H
              dsimp only [stp, sm] at H
              refine ⟨(s1733.1, s1733.2.1, s1733.2.2.1, s1733.2.2.2.1, s1733.2.2.2.2), ⟨H⟩, ⟨rfl⟩, ?_⟩
              repeat refine mo1_LiftD4 ?_
              first | exact trivial | exact rfl
          · intro v1729 H
            refine And.intro ⟨fun _ _ _ h => h⟩ ?_
            refine And.intro ?_ trivial
            refine ob_app (by decide) (by first | exact (ec_one c51_one) | ((repeat (refine List.forall_mem_cons.2 ⟨rfl, ?_⟩)); intro y hy; cases hy; done) | (intro y hy; simp [ei, eb, es, ec, c51] at hy; (first | (rcases hy with rfl | hy) | subst hy | skip); all_goals first | rfl | simp_all [Value.oneCell'])) H fun h1821 H => ?_
            intro n1822 zs1824 hn1823 hz1825
            obtain rfl : n1822 = (s1083.2.2.2.2.1 ++ v1729.2.2.2.2).length := hn1823.trans (by first | exact List.length_append.symm | (simp; done) | (simp; omega))
            obtain rfl : zs1824 = ec c51 (s1083.2.2.2.2.1 ++ v1729.2.2.2.2) := by first | exact hz1825.trans (ec_app (xs := s1083.2.2.2.2.1) (ys := v1729.2.2.2.2)).symm | (rw [hz1825, ec_vw]; first | exact ec_app.symm | exact (ec_app (xs := s1083.2.2.2.2.1)).symm) | (rw [hz1825]; simp [ei, eb, es, ec, c51])
            refine And.intro ⟨fun _ _ _ h => h⟩ ?_
            refine And.intro ?_ trivial
            refine And.intro ⟨fun _ _ _ h => h⟩ ?_
            refine ob_ck H fun h1826 H => ?_
            replace H := some_st H
            refine ⟨(m1084, (v1729.1, v1729.2.1, v1729.2.2.1, v1729.2.2.2.1, (s1083.2.2.2.2.1 ++ v1729.2.2.2.2), s1083.2.2.2.2.2 + 1)), ⟨H, Nat.lt_succ_self _⟩, ⟨trivial⟩, ⟨rfl⟩, ?_⟩
            repeat refine mo1_LiftD4 ?_
            first | exact trivial | exact rfl
      · replace H := some_st H
        dsimp only [stp, sm] at H
        refine ⟨(s1083.1, s1083.2.1, s1083.2.2.1, s1083.2.2.2.1, s1083.2.2.2.2.1), ⟨H⟩, ⟨rfl⟩, ?_⟩
        repeat refine mo1_LiftD4 ?_
        first | exact trivial | exact rfl
    · intro v1079 H
      have hfin := fin_st H
      repeat refine mf1_LiftD4 ?_
      first | exact trivial | exact rfl

/-- (*placard/keyin.Decoder).One -/
noncomputable def g17 (a0 : (List Int × Bool × List Int × Int × Bool)) (a1 : List Int) : Option (List (Int × ByteArray × Int × Bool × Bool × Bool) × Int × (List Int × Bool × List Int × Int × Bool)) :=
  if ¬ (a0.2.2.2.2 = true) then
    some (([] : List (Int × ByteArray × Int × Bool × Bool × Bool)), 0, (a0.1, a0.2.1, a0.2.2.1, a0.2.2.2.1, a0.2.2.2.2))
  else
    (
      jn (α := _) (β := List Int × Bool × List Int × Int × List (Int × ByteArray × Int × Bool × Bool × Bool) × Int) (fun k3866 =>
          (loopO (σ := List Int × Bool × List Int × Int × List (Int × ByteArray × Int × Bool × Bool × Bool) × Int × Int) (ρ := (List Int × Bool × List Int × Int × List (Int × ByteArray × Int × Bool × Bool × Bool) × Int) ⊕ (List Int × Bool × List Int × Int × List (Int × ByteArray × Int × Bool × Bool × Bool) × Int)) (fun s3869 =>
              if s3869.2.2.2.2.2.2 < ((a1.length : Nat) : Int) then
                (
                  ck (0 ≤ s3869.2.2.2.2.2.2 ∧ s3869.2.2.2.2.2.2 < ((a1.length : Nat) : Int)) <|
                  jn (α := _) (β := List Int × Bool × List Int × Int × List (Int × ByteArray × Int × Bool × Bool × Bool)) (fun k4964 =>
                      if s3869.2.1 = true then
                        (
                          ck (0 ≤ s3869.2.2.2.1 ∧ s3869.2.2.2.1 < ((lit [27, 91, 50, 48, 49, 126]).size : Int)) <|
                          if (a1.getD s3869.2.2.2.2.2.2.toNat 0) = (((lit [27, 91, 50, 48, 49, 126]).data.toList[s3869.2.2.2.1.toNat]?.getD 0).toNat : Int) then
                            (
                              ck (inR .i64 (s3869.2.2.2.1 + 1)) <|
                              if (s3869.2.2.2.1 + 1) < 6 then
                                k4964 (s3869.1, s3869.2.1, s3869.2.2.1, s3869.2.2.2.1 + 1, [])
                              else
                                (
                                  ck (0 ≤ (0 : Int) ∧ (0 : Int) ≤ gmin ((s3869.2.2.1.length : Nat) : Int) 65536 ∧ gmin ((s3869.2.2.1.length : Nat) : Int) 65536 ≤ ((s3869.2.2.1.length : Nat) : Int)) <|
                                  (g39 ((s3869.2.2.1.drop ((0 : Int).toNat)).take ((gmin ((s3869.2.2.1.length : Nat) : Int) 65536).toNat - (0 : Int).toNat))).bind fun v4973 =>
                                  k4964 (s3869.1, false, [], 0, [(16, v4973, 0, false, false, false)])
                                )
                            )
                          else
                            (
                              ck (0 ≤ (0 : Int) ∧ (0 : Int) ≤ s3869.2.2.2.1 ∧ s3869.2.2.2.1 ≤ ((lit [27, 91, 50, 48, 49, 126]).size : Int)) <|
                              ck (inR .i64 (65542 - ((s3869.2.2.1.length : Nat) : Int))) <|
                              ck (0 ≤ (0 : Int) ∧ (0 : Int) ≤ gmax 0 (gmin (65542 - ((s3869.2.2.1.length : Nat) : Int)) (((lit [27, 91, 50, 48, 49, 126]).extract (0 : Int).toNat s3869.2.2.2.1.toNat).size : Int)) ∧ gmax 0 (gmin (65542 - ((s3869.2.2.1.length : Nat) : Int)) (((lit [27, 91, 50, 48, 49, 126]).extract (0 : Int).toNat s3869.2.2.2.1.toNat).size : Int)) ≤ (((lit [27, 91, 50, 48, 49, 126]).extract (0 : Int).toNat s3869.2.2.2.1.toNat).size : Int)) <|
                              ck (s3869.2.2.1.length + (((lit [27, 91, 50, 48, 49, 126]).extract (0 : Int).toNat s3869.2.2.2.1.toNat).extract (0 : Int).toNat (gmax 0 (gmin (65542 - ((s3869.2.2.1.length : Nat) : Int)) (((lit [27, 91, 50, 48, 49, 126]).extract (0 : Int).toNat s3869.2.2.2.1.toNat).size : Int))).toNat).size ≤ 140737488355328) <|
                              ck (0 ≤ (0 : Int) ∧ 0 < ((lit [27, 91, 50, 48, 49, 126]).size : Int)) <|
                              if (a1.getD s3869.2.2.2.2.2.2.toNat 0) = (((lit [27, 91, 50, 48, 49, 126]).data.toList[(0 : Int).toNat]?.getD 0).toNat : Int) then
                                k4964 (s3869.1, s3869.2.1, (s3869.2.2.1 ++ bytesOf (((lit [27, 91, 50, 48, 49, 126]).extract (0 : Int).toNat s3869.2.2.2.1.toNat).extract (0 : Int).toNat (gmax 0 (gmin (65542 - ((s3869.2.2.1.length : Nat) : Int)) (((lit [27, 91, 50, 48, 49, 126]).extract (0 : Int).toNat s3869.2.2.2.1.toNat).size : Int))).toNat)), 1, [])
                              else
                                (
                                  ck (isBytes ([a1.getD s3869.2.2.2.2.2.2.toNat 0])) <|
                                  ck (inR .i64 (65542 - (((s3869.2.2.1 ++ bytesOf (((lit [27, 91, 50, 48, 49, 126]).extract (0 : Int).toNat s3869.2.2.2.1.toNat).extract (0 : Int).toNat (gmax 0 (gmin (65542 - ((s3869.2.2.1.length : Nat) : Int)) (((lit [27, 91, 50, 48, 49, 126]).extract (0 : Int).toNat s3869.2.2.2.1.toNat).size : Int))).toNat)).length : Nat) : Int))) <|
                                  ck (0 ≤ (0 : Int) ∧ (0 : Int) ≤ gmax 0 (gmin (65542 - (((s3869.2.2.1 ++ bytesOf (((lit [27, 91, 50, 48, 49, 126]).extract (0 : Int).toNat s3869.2.2.2.1.toNat).extract (0 : Int).toNat (gmax 0 (gmin (65542 - ((s3869.2.2.1.length : Nat) : Int)) (((lit [27, 91, 50, 48, 49, 126]).extract (0 : Int).toNat s3869.2.2.2.1.toNat).size : Int))).toNat)).length : Nat) : Int)) ((strOf ([a1.getD s3869.2.2.2.2.2.2.toNat 0])).size : Int)) ∧ gmax 0 (gmin (65542 - (((s3869.2.2.1 ++ bytesOf (((lit [27, 91, 50, 48, 49, 126]).extract (0 : Int).toNat s3869.2.2.2.1.toNat).extract (0 : Int).toNat (gmax 0 (gmin (65542 - ((s3869.2.2.1.length : Nat) : Int)) (((lit [27, 91, 50, 48, 49, 126]).extract (0 : Int).toNat s3869.2.2.2.1.toNat).size : Int))).toNat)).length : Nat) : Int)) ((strOf ([a1.getD s3869.2.2.2.2.2.2.toNat 0])).size : Int)) ≤ ((strOf ([a1.getD s3869.2.2.2.2.2.2.toNat 0])).size : Int)) <|
                                  ck ((s3869.2.2.1 ++ bytesOf (((lit [27, 91, 50, 48, 49, 126]).extract (0 : Int).toNat s3869.2.2.2.1.toNat).extract (0 : Int).toNat (gmax 0 (gmin (65542 - ((s3869.2.2.1.length : Nat) : Int)) (((lit [27, 91, 50, 48, 49, 126]).extract (0 : Int).toNat s3869.2.2.2.1.toNat).size : Int))).toNat)).length + ((strOf ([a1.getD s3869.2.2.2.2.2.2.toNat 0])).extract (0 : Int).toNat (gmax 0 (gmin (65542 - (((s3869.2.2.1 ++ bytesOf (((lit [27, 91, 50, 48, 49, 126]).extract (0 : Int).toNat s3869.2.2.2.1.toNat).extract (0 : Int).toNat (gmax 0 (gmin (65542 - ((s3869.2.2.1.length : Nat) : Int)) (((lit [27, 91, 50, 48, 49, 126]).extract (0 : Int).toNat s3869.2.2.2.1.toNat).size : Int))).toNat)).length : Nat) : Int)) ((strOf ([a1.getD s3869.2.2.2.2.2.2.toNat 0])).size : Int))).toNat).size ≤ 140737488355328) <|
                                  k4964 (s3869.1, s3869.2.1, ((s3869.2.2.1 ++ bytesOf (((lit [27, 91, 50, 48, 49, 126]).extract (0 : Int).toNat s3869.2.2.2.1.toNat).extract (0 : Int).toNat (gmax 0 (gmin (65542 - ((s3869.2.2.1.length : Nat) : Int)) (((lit [27, 91, 50, 48, 49, 126]).extract (0 : Int).toNat s3869.2.2.2.1.toNat).size : Int))).toNat)) ++ bytesOf ((strOf ([a1.getD s3869.2.2.2.2.2.2.toNat 0])).extract (0 : Int).toNat (gmax 0 (gmin (65542 - (((s3869.2.2.1 ++ bytesOf (((lit [27, 91, 50, 48, 49, 126]).extract (0 : Int).toNat s3869.2.2.2.1.toNat).extract (0 : Int).toNat (gmax 0 (gmin (65542 - ((s3869.2.2.1.length : Nat) : Int)) (((lit [27, 91, 50, 48, 49, 126]).extract (0 : Int).toNat s3869.2.2.2.1.toNat).size : Int))).toNat)).length : Nat) : Int)) ((strOf ([a1.getD s3869.2.2.2.2.2.2.toNat 0])).size : Int))).toNat)), 0, [])
                                )
                            )
                        )
                      else
                        (
                          ck ((s3869.1.length + 1) * 1 ≤ 140737488355328) <|
                          jn (α := _) (β := List Int × Bool × List Int × Int × List (Int × ByteArray × Int × Bool × Bool × Bool)) (fun k5089 =>
                              (loopO (σ := List Int × Bool × List Int × Int × List (Int × ByteArray × Int × Bool × Bool × Bool)) (ρ := List Int × Bool × List Int × Int × List (Int × ByteArray × Int × Bool × Bool × Bool)) (fun s5092 =>
                                  if 0 < ((s5092.1.length : Nat) : Int) then
                                    (
                                      if ¬ (s5092.2.1 = true) then
                                        (
                                          (g32 s5092.1).bind fun v5153 =>
                                          if v5153.1 = 0 then
                                            some (.out (s5092.1, s5092.2.1, s5092.2.2.1, s5092.2.2.2.1, s5092.2.2.2.2))
                                          else
                                            (
                                              ck (0 ≤ v5153.1 ∧ v5153.1 ≤ ((s5092.1.length : Nat) : Int) ∧ ((s5092.1.length : Nat) : Int) ≤ ((s5092.1.length : Nat) : Int)) <|
                                              ck ((0 + (((s5092.1.length : Nat) : Int).toNat - v5153.1.toNat)) * 1 ≤ 140737488355328) <|
                                              jn (α := _) (β := List (Int × ByteArray × Int × Bool × Bool × Bool)) (fun k5171 =>
                                                  if v5153.2.2.2.2.2.2.2.1 = true then
                                                    (
                                                      ck ((s5092.2.2.2.2.length + 1) * 40 ≤ 140737488355328) <|
                                                      k5171 (s5092.2.2.2.2 ++ [(v5153.2.1, v5153.2.2.1, v5153.2.2.2.1, v5153.2.2.2.2.1, v5153.2.2.2.2.2.1, v5153.2.2.2.2.2.2.1)])
                                                    )
                                                  else
                                                    k5171 s5092.2.2.2.2
                                              ) (fun v5170 =>
                                                if v5153.2.2.2.2.2.2.2.2 = true then
                                                  some (.go ((([] : List Int) ++ ((s5092.1.drop v5153.1.toNat).take (((s5092.1.length : Nat) : Int).toNat - v5153.1.toNat))), true, [], 0, v5170))
                                                else
                                                  some (.go ((([] : List Int) ++ ((s5092.1.drop v5153.1.toNat).take (((s5092.1.length : Nat) : Int).toNat - v5153.1.toNat))), s5092.2.1, s5092.2.2.1, s5092.2.2.2.1, v5170))
                                              )
                                            )
                                        )
                                      else
                                        some (.out (s5092.1, s5092.2.1, s5092.2.2.1, s5092.2.2.2.1, s5092.2.2.2.2))
                                    )
                                  else
                                    some (.out (s5092.1, s5092.2.1, s5092.2.2.1, s5092.2.2.2.1, s5092.2.2.2.2))
                                ) ((s3869.1 ++ [a1.getD s3869.2.2.2.2.2.2.toNat 0]), s3869.2.1, s3869.2.2.1, s3869.2.2.2.1, [])).bind fun o5150 =>
                                k5089 (o5150.1, o5150.2.1, o5150.2.2.1, o5150.2.2.2.1, o5150.2.2.2.2)
                          ) (fun v5088 =>
                            k4964 (v5088.1, v5088.2.1, v5088.2.2.1, v5088.2.2.2.1, v5088.2.2.2.2)
                          )
                        )
                  ) (fun v4963 =>
                    ck (inR .i64 (s3869.2.2.2.2.2.1 + 1)) <|
                    if 0 < ((v4963.2.2.2.2.length : Nat) : Int) then
                      some (.out (.inl ((v4963.1, v4963.2.1, v4963.2.2.1, v4963.2.2.2.1, v4963.2.2.2.2, s3869.2.2.2.2.2.1 + 1))))
                    else
                      (
                        ck (inR .i64 (s3869.2.2.2.2.2.2 + 1)) <|
                        some (.go (v4963.1, v4963.2.1, v4963.2.2.1, v4963.2.2.2.1, v4963.2.2.2.2, s3869.2.2.2.2.2.1 + 1, s3869.2.2.2.2.2.2 + 1))
                      )
                  )
                )
              else
                some (.out (.inr ((s3869.1, s3869.2.1, s3869.2.2.1, s3869.2.2.2.1, s3869.2.2.2.2.1, s3869.2.2.2.2.2.1))))
            ) (a0.1, a0.2.1, a0.2.2.1, a0.2.2.2.1, [], 0, 0)).bind fun o4745 =>
          sm o4745 (fun o5183 =>
              some (o5183.2.2.2.2.1, o5183.2.2.2.2.2, (o5183.1, o5183.2.1, o5183.2.2.1, o5183.2.2.2.1, a0.2.2.2.2))
            ) (fun o5184 =>
              k3866 (o5184.1, o5184.2.1, o5184.2.2.1, o5184.2.2.2.1, o5184.2.2.2.2.1, o5184.2.2.2.2.2)
            )
      ) (fun v3865 =>
        some (([] : List (Int × ByteArray × Int × Bool × Bool × Bool)), v3865.2.2.2.2.2, (v3865.1, v3865.2.1, v3865.2.2.1, v3865.2.2.2.1, a0.2.2.2.2))
      )
    )
noncomputable def k17 : Eng.CS := { f := 17, calm := false, more := 6, ι := (List Int × Bool × List Int × Int × Bool) × (List Int) × (List (Int × ByteArray × Int × Bool × Bool × Bool) × Int × (List Int × Bool × List Int × Int × Bool)), ok := fun i => g17 i.1 i.2.1 = some i.2.2, rds := fun _ => [], args := fun i => [.w (.lp 0 0), .sl 1 i.2.1.length (ei .u8 i.2.1)], res := fun i => .tup [.own 5, .v (.int .i64 (i.2.2.2.1))], L' := fun i => [(0, .cells 55 [.own 3, bS i.2.2.2.2.2.1, .own 4, .v (.int .i64 (i.2.2.2.2.2.2.2.1)), bS i.2.2.2.2.2.2.2.2]), (3, .arr 5 1 i.2.2.2.2.1.length (ei .u8 i.2.2.2.2.1)), (4, .arr 5 1 i.2.2.2.2.2.2.1.length (ei .u8 i.2.2.2.2.2.2.1)), (5, .arr 51 6 i.2.2.1.length (ec c51 i.2.2.1))], rn := [(100000, 0, 5, 1), (100000, 2, 5, 1), (0, 0, 51, 6)], keys := 3, L := fun i => [(0, .cells 55 [.own 1, bS i.1.2.1, .own 2, .v (.int .i64 (i.1.2.2.2.1)), bS i.1.2.2.2.2]), (1, .arr 5 1 i.1.1.length (ei .u8 i.1.1)), (2, .arr 5 1 i.1.2.2.1.length (ei .u8 i.1.2.2.1))] }
set_option maxRecDepth 8000 in
set_option maxHeartbeats 4000000 in
theorem k17_ok : CSOk Tryd.prog k17 := by
  refine R.cspec Tryd.func17 nm17 rfl ?_
  rintro ⟨a0, a1, r⟩ hok q _ args hargs
  dsimp only [k17] at hargs ⊢
  match args, hargs with
  | [_, _], hargs =>
  obtain ⟨rfl, ⟨A1, cp1, rfl, hc1, _, hR1⟩, _⟩ := hargs
  refine ⟨envC [k32, k39] false [(17, 6), (17, 9), (24, 11), (24, 15)], 6, envC_ok (css_cons ⟨fun _ => k32_ok, fun h => (by cases h)⟩ (css_cons ⟨fun _ => k39_ok, fun h => (by cases h)⟩ (css_nil))), ?_⟩
  have H : Gives (g17 a0 a1) (fun a => a = r) := ⟨r, hok, rfl⟩
  unfold g17 at H
  clear hok
  refine if_st H (fun h1829 H => ?_) (fun h1829 H => ?_)
  · have hfin := fin_st H
    repeat refine mf1_LiftD4 ?_
    first | exact trivial | exact rfl
  · refine R.cut_fam H 36 [4, 5] [] (fun v3865 => []) (fun v3865 => [(0, .cells 55 [.own 36, bS v3865.2.1, .own 37, .v (.int .i64 (v3865.2.2.2.1)), bS a0.2.2.2.2]), (4, .cells 26 [.own 38]), (5, .cells 3 [.v (.int .i64 (v3865.2.2.2.2.2))]), (36, .arr 5 1 (v3865.1.length) (ei .u8 (v3865.1))), (37, .arr 5 1 (v3865.2.2.1.length) (ei .u8 (v3865.2.2.1))), (38, .arr 51 6 (v3865.2.2.2.2.1.length) (ec c51 (v3865.2.2.2.2.1)))]) [(3, .cells 24 [.lp 0 0])] 3 (fun H => ?_)
    refine And.intro ?_ ?_
    · refine R.loop_fam (bind_st H) [0, 5, 6] [(100004, 0, 51, 6)] (fun _ s3869 => [(7, .v (.int .i64 (s3869.2.2.2.2.2.2)))]) (fun _ s3869 => [(0, .cells 55 [.own 27, bS s3869.2.1, .own 28, .v (.int .i64 (s3869.2.2.2.1)), bS a0.2.2.2.2]), (4, .cells 26 [.own 29]), (5, .cells 3 [.v (.int .i64 (s3869.2.2.2.2.2.1))]), (27, .arr 5 1 (s3869.1.length) (ei .u8 (s3869.1))), (28, .arr 5 1 (s3869.2.2.1.length) (ei .u8 (s3869.2.2.1))), (29, .arr 51 6 (s3869.2.2.2.2.1.length) (ec c51 (s3869.2.2.2.2.1)))]) 3 (fun n5185 H => ?_)
      refine ⟨(n5185, _), ⟨H⟩, ⟨trivial⟩, ?_⟩
      repeat refine mo1_LiftD4 ?_
      rintro ⟨m0, s3869⟩ H _
      obtain ⟨m3870, hm0, H⟩ := IG_succ H
      dsimp only at hm0
      subst hm0
      try dsimp only at H
      refine if_st H (fun h4746 H => ?_) (fun h4746 H => ?_)
      · refine ob_ix hR1 (fun h => ei0 h) H fun h4747 H => ?_
        refine ld_int (e := a1.getD s3869.2.2.2.2.2.2.toNat 0) (rd_get hR1 (ei_get (l := a1) (tn h4747))) ?_
        refine R.cut_fam H 106 [4, 5] [(100000, 2, 5, 1), (100004, 0, 51, 6)] (fun v4963 => []) (fun v4963 => [(0, .cells 55 [.own 106, bS v4963.2.1, .own 107, .v (.int .i64 (v4963.2.2.2.1)), bS a0.2.2.2.2]), (4, .cells 26 [.own 108]), (106, .arr 5 1 (v4963.1.length) (ei .u8 (v4963.1))), (107, .arr 5 1 (v4963.2.2.1.length) (ei .u8 (v4963.2.2.1))), (108, .arr 51 6 (v4963.2.2.2.2.length) (ec c51 (v4963.2.2.2.2)))]) [(5, .cells 3 [.v (.int .i64 (s3869.2.2.2.2.2.1))]), (29, .arr 51 6 (s3869.2.2.2.2.1.length) (ec c51 (s3869.2.2.2.2.1))), (3, .cells 24 [.lp 0 0]), (17, .cells 22 [.v (.slice (A1) (a1.length) (cp1))]), (21, .loop .busy none), (22, .dfr)] 3 (fun H => ?_)
        refine And.intro ?_ ?_
        · refine if_st H (fun h4965 H => ?_) (fun h4965 H => ?_)
          · refine ob_ck H fun h4966 H => ?_
            refine if_st H (fun h4967 H => ?_) (fun h4967 H => ?_)
            · refine ob_ck H fun h4968 H => ?_
              refine if_st H (fun h4969 H => ?_) (fun h4969 H => ?_)
              · refine ⟨(s3869.1, s3869.2.1, s3869.2.2.1, s3869.2.2.2.1 + 1, []), ⟨H⟩, ⟨rfl⟩, ?_⟩
                repeat refine mo1_LiftD4 ?_
                first | exact trivial | exact rfl
              · refine And.intro ⟨by kernel_rfl⟩ ?_
                refine ob_ck H fun h4970 H => ?_
                try dsimp only at h4970
                intro n4971 hn4972
                subst hn4972
                obtain ⟨v4973, hv4974, H⟩ := call_st H
                refine ⟨(((s3869.2.2.1.drop ((0 : Int).toNat)).take ((gmin ((s3869.2.2.1.length : Nat) : Int) 65536).toNat - (0 : Int).toNat)), v4973), ⟨hv4974⟩, ⟨trivial⟩, ?_⟩
                refine And.intro ⟨(len_vw (by first | omega | (dsimp only; omega))).symm, by first | omega | (dsimp only; omega), ei_vw⟩ ?_
                refine ⟨(s3869.1, false, [], 0, [(16, v4973, 0, false, false, false)]), ⟨H⟩, ⟨rfl⟩, ?_⟩
                repeat refine mo1_LiftD4 ?_
                first | exact trivial | exact rfl
            · refine ob_ck H fun h4975 H => ?_
              refine ob_ck H fun h4976 H => ?_
              refine And.intro ⟨by kernel_rfl⟩ ?_
              refine ⟨(Pn.calm 0 (Pn.calm 1 (Pn.calm 2 (Pn.calm 3 (Pn.calm 4 (Pn.calm 5 (Pn.calm 6 (Pn.calm 7 (Pn.calm 8 (Pn.calm 9 (Pn.calm 10 (Pn.calm 11 (Pn.eff 12 [4, 11, 3, 5, 10, 2, 9, 1, 6, 8, 7] (Pn.calm 13 (Pn.calm 14 (Pn.eff 15 [14, 12, 0, 1, 2, 3, 4, 5, 6, 7, 8, 9, 10, 11, 13] Pn.done Pn.no))) Pn.no))))))))))))), ⟨by kernel_rfl⟩, ?_⟩
              refine ob_ck H fun h4977 H => ?_
              refine And.intro ?_ trivial
              refine ob_ck H fun h4978 H => ?_
              intro n4979 zs4981 hn4980 hz4982
              obtain rfl : n4979 = (s3869.2.2.1 ++ bytesOf (((lit [27, 91, 50, 48, 49, 126]).extract (0 : Int).toNat s3869.2.2.2.1.toNat).extract (0 : Int).toNat (gmax 0 (gmin (65542 - ((s3869.2.2.1.length : Nat) : Int)) (((lit [27, 91, 50, 48, 49, 126]).extract (0 : Int).toNat s3869.2.2.2.1.toNat).size : Int))).toNat)).length := hn4980.trans (len_appS (xs := s3869.2.2.1) (s := (((lit [27, 91, 50, 48, 49, 126]).extract (0 : Int).toNat s3869.2.2.2.1.toNat).extract (0 : Int).toNat (gmax 0 (gmin (65542 - ((s3869.2.2.1.length : Nat) : Int)) (((lit [27, 91, 50, 48, 49, 126]).extract (0 : Int).toNat s3869.2.2.2.1.toNat).size : Int))).toNat)))
              obtain rfl : zs4981 = ei .u8 (s3869.2.2.1 ++ bytesOf (((lit [27, 91, 50, 48, 49, 126]).extract (0 : Int).toNat s3869.2.2.2.1.toNat).extract (0 : Int).toNat (gmax 0 (gmin (65542 - ((s3869.2.2.1.length : Nat) : Int)) (((lit [27, 91, 50, 48, 49, 126]).extract (0 : Int).toNat s3869.2.2.2.1.toNat).size : Int))).toNat)) := hz4982.trans (ei_appS (xs := s3869.2.2.1) (s := (((lit [27, 91, 50, 48, 49, 126]).extract (0 : Int).toNat s3869.2.2.2.1.toNat).extract (0 : Int).toNat (gmax 0 (gmin (65542 - ((s3869.2.2.1.length : Nat) : Int)) (((lit [27, 91, 50, 48, 49, 126]).extract (0 : Int).toNat s3869.2.2.2.1.toNat).size : Int))).toNat)))
              refine And.intro ⟨fun _ _ _ h => h⟩ ?_
              refine And.intro ?_ trivial
              refine And.intro ⟨fun _ _ _ h => h⟩ ?_
              refine ob_ck H fun h4983 H => ?_
              refine if_st H (fun h4984 H => ?_) (fun h4984 H => ?_)
              · refine ⟨(s3869.1, s3869.2.1, (s3869.2.2.1 ++ bytesOf (((lit [27, 91, 50, 48, 49, 126]).extract (0 : Int).toNat s3869.2.2.2.1.toNat).extract (0 : Int).toNat (gmax 0 (gmin (65542 - ((s3869.2.2.1.length : Nat) : Int)) (((lit [27, 91, 50, 48, 49, 126]).extract (0 : Int).toNat s3869.2.2.2.1.toNat).size : Int))).toNat)), 1, []), ⟨H⟩, ⟨rfl⟩, ?_⟩
                repeat refine mo1_LiftD4 ?_
                first | exact trivial | exact rfl
              · refine ob_str (l := [a1.getD s3869.2.2.2.2.2.2.toNat 0]) H fun h4985 H => ?_
                refine ob_ck H fun h4986 H => ?_
                refine And.intro ⟨by kernel_rfl⟩ ?_
                refine ⟨(Pn.calm 0 (Pn.calm 1 (Pn.calm 2 (Pn.calm 3 (Pn.calm 4 (Pn.calm 5 (Pn.calm 6 (Pn.calm 7 (Pn.calm 8 (Pn.calm 9 (Pn.calm 10 (Pn.calm 11 (Pn.eff 12 [4, 11, 3, 5, 10, 2, 9, 1, 6, 8, 7] (Pn.calm 13 (Pn.calm 14 (Pn.eff 15 [14, 12, 0, 1, 2, 3, 4, 5, 6, 7, 8, 9, 10, 11, 13] Pn.done Pn.no))) Pn.no))))))))))))), ⟨by kernel_rfl⟩, ?_⟩
                refine ob_ck H fun h4987 H => ?_
                refine And.intro ?_ trivial
                refine ob_ck H fun h4988 H => ?_
                intro n4989 zs4991 hn4990 hz4992
                obtain rfl : n4989 = ((s3869.2.2.1 ++ bytesOf (((lit [27, 91, 50, 48, 49, 126]).extract (0 : Int).toNat s3869.2.2.2.1.toNat).extract (0 : Int).toNat (gmax 0 (gmin (65542 - ((s3869.2.2.1.length : Nat) : Int)) (((lit [27, 91, 50, 48, 49, 126]).extract (0 : Int).toNat s3869.2.2.2.1.toNat).size : Int))).toNat)) ++ bytesOf ((strOf ([a1.getD s3869.2.2.2.2.2.2.toNat 0])).extract (0 : Int).toNat (gmax 0 (gmin (65542 - (((s3869.2.2.1 ++ bytesOf (((lit [27, 91, 50, 48, 49, 126]).extract (0 : Int).toNat s3869.2.2.2.1.toNat).extract (0 : Int).toNat (gmax 0 (gmin (65542 - ((s3869.2.2.1.length : Nat) : Int)) (((lit [27, 91, 50, 48, 49, 126]).extract (0 : Int).toNat s3869.2.2.2.1.toNat).size : Int))).toNat)).length : Nat) : Int)) ((strOf ([a1.getD s3869.2.2.2.2.2.2.toNat 0])).size : Int))).toNat)).length := hn4990.trans (len_appS (xs := (s3869.2.2.1 ++ bytesOf (((lit [27, 91, 50, 48, 49, 126]).extract (0 : Int).toNat s3869.2.2.2.1.toNat).extract (0 : Int).toNat (gmax 0 (gmin (65542 - ((s3869.2.2.1.length : Nat) : Int)) (((lit [27, 91, 50, 48, 49, 126]).extract (0 : Int).toNat s3869.2.2.2.1.toNat).size : Int))).toNat))) (s := ((strOf ([a1.getD s3869.2.2.2.2.2.2.toNat 0])).extract (0 : Int).toNat (gmax 0 (gmin (65542 - (((s3869.2.2.1 ++ bytesOf (((lit [27, 91, 50, 48, 49, 126]).extract (0 : Int).toNat s3869.2.2.2.1.toNat).extract (0 : Int).toNat (gmax 0 (gmin (65542 - ((s3869.2.2.1.length : Nat) : Int)) (((lit [27, 91, 50, 48, 49, 126]).extract (0 : Int).toNat s3869.2.2.2.1.toNat).size : Int))).toNat)).length : Nat) : Int)) ((strOf ([a1.getD s3869.2.2.2.2.2.2.toNat 0])).size : Int))).toNat)))
                obtain rfl : zs4991 = ei .u8 ((s3869.2.2.1 ++ bytesOf (((lit [27, 91, 50, 48, 49, 126]).extract (0 : Int).toNat s3869.2.2.2.1.toNat).extract (0 : Int).toNat (gmax 0 (gmin (65542 - ((s3869.2.2.1.length : Nat) : Int)) (((lit [27, 91, 50, 48, 49, 126]).extract (0 : Int).toNat s3869.2.2.2.1.toNat).size : Int))).toNat)) ++ bytesOf ((strOf ([a1.getD s3869.2.2.2.2.2.2.toNat 0])).extract (0 : Int).toNat (gmax 0 (gmin (65542 - (((s3869.2.2.1 ++ bytesOf (((lit [27, 91, 50, 48, 49, 126]).extract (0 : Int).toNat s3869.2.2.2.1.toNat).extract (0 : Int).toNat (gmax 0 (gmin (65542 - ((s3869.2.2.1.length : Nat) : Int)) (((lit [27, 91, 50, 48, 49, 126]).extract (0 : Int).toNat s3869.2.2.2.1.toNat).size : Int))).toNat)).length : Nat) : Int)) ((strOf ([a1.getD s3869.2.2.2.2.2.2.toNat 0])).size : Int))).toNat)) := hz4992.trans (ei_appS (xs := (s3869.2.2.1 ++ bytesOf (((lit [27, 91, 50, 48, 49, 126]).extract (0 : Int).toNat s3869.2.2.2.1.toNat).extract (0 : Int).toNat (gmax 0 (gmin (65542 - ((s3869.2.2.1.length : Nat) : Int)) (((lit [27, 91, 50, 48, 49, 126]).extract (0 : Int).toNat s3869.2.2.2.1.toNat).size : Int))).toNat))) (s := ((strOf ([a1.getD s3869.2.2.2.2.2.2.toNat 0])).extract (0 : Int).toNat (gmax 0 (gmin (65542 - (((s3869.2.2.1 ++ bytesOf (((lit [27, 91, 50, 48, 49, 126]).extract (0 : Int).toNat s3869.2.2.2.1.toNat).extract (0 : Int).toNat (gmax 0 (gmin (65542 - ((s3869.2.2.1.length : Nat) : Int)) (((lit [27, 91, 50, 48, 49, 126]).extract (0 : Int).toNat s3869.2.2.2.1.toNat).size : Int))).toNat)).length : Nat) : Int)) ((strOf ([a1.getD s3869.2.2.2.2.2.2.toNat 0])).size : Int))).toNat)))
                refine And.intro ⟨fun _ _ _ h => h⟩ ?_
                refine And.intro ?_ trivial
                refine And.intro ⟨fun _ _ _ h => h⟩ ?_
                refine ⟨(s3869.1, s3869.2.1, ((s3869.2.2.1 ++ bytesOf (((lit [27, 91, 50, 48, 49, 126]).extract (0 : Int).toNat s3869.2.2.2.1.toNat).extract (0 : Int).toNat (gmax 0 (gmin (65542 - ((s3869.2.2.1.length : Nat) : Int)) (((lit [27, 91, 50, 48, 49, 126]).extract (0 : Int).toNat s3869.2.2.2.1.toNat).size : Int))).toNat)) ++ bytesOf ((strOf ([a1.getD s3869.2.2.2.2.2.2.toNat 0])).extract (0 : Int).toNat (gmax 0 (gmin (65542 - (((s3869.2.2.1 ++ bytesOf (((lit [27, 91, 50, 48, 49, 126]).extract (0 : Int).toNat s3869.2.2.2.1.toNat).extract (0 : Int).toNat (gmax 0 (gmin (65542 - ((s3869.2.2.1.length : Nat) : Int)) (((lit [27, 91, 50, 48, 49, 126]).extract (0 : Int).toNat s3869.2.2.2.1.toNat).size : Int))).toNat)).length : Nat) : Int)) ((strOf ([a1.getD s3869.2.2.2.2.2.2.toNat 0])).size : Int))).toNat)), 0, []), ⟨H⟩, ⟨rfl⟩, ?_⟩
                repeat refine mo1_LiftD4 ?_
                first | exact trivial | exact rfl
          · refine ob_app (by decide) (by first | exact ei_one | ((repeat (refine List.forall_mem_cons.2 ⟨rfl, ?_⟩)); intro y hy; cases hy; done) | (intro y hy; simp [ei, eb, es, ec, c51] at hy; (first | (rcases hy with rfl | hy) | subst hy | skip); all_goals first | rfl | simp_all [Value.oneCell'])) H fun h4993 H => ?_
            intro n4994 zs4996 hn4995 hz4997
            obtain rfl : n4994 = (s3869.1 ++ [a1.getD s3869.2.2.2.2.2.2.toNat 0]).length := hn4995.trans (by first | exact List.length_append.symm | (simp; done) | (simp; omega))
            obtain rfl : zs4996 = ei .u8 (s3869.1 ++ [a1.getD s3869.2.2.2.2.2.2.toNat 0]) := by first | exact hz4997.trans (ei_app (xs := s3869.1) (ys := ([a1.getD s3869.2.2.2.2.2.2.toNat 0]))).symm | (rw [hz4997, ei_vw]; first | exact ei_app.symm | exact (ei_app (xs := s3869.1)).symm) | (rw [hz4997]; simp [ei, eb, es, ec, c51])
            refine R.cut_fam H 94 [] [] (fun v5088 => [(5, .own 96)]) (fun v5088 => [(0, .cells 55 [.own 94, bS v5088.2.1, .own 95, .v (.int .i64 (v5088.2.2.2.1)), bS a0.2.2.2.2]), (94, .arr 5 1 (v5088.1.length) (ei .u8 (v5088.1))), (95, .arr 5 1 (v5088.2.2.1.length) (ei .u8 (v5088.2.2.1))), (96, .arr 51 6 (v5088.2.2.2.2.length) (ec c51 (v5088.2.2.2.2)))]) [(4, .cells 26 [.own 29]), (5, .cells 3 [.v (.int .i64 (s3869.2.2.2.2.2.1))]), (29, .arr 51 6 (s3869.2.2.2.2.1.length) (ec c51 (s3869.2.2.2.2.1))), (3, .cells 24 [.lp 0 0]), (17, .cells 22 [.v (.slice (A1) (a1.length) (cp1))]), (21, .loop .busy none), (22, .dfr), (56, .arr 5 1 (1) (ei .u8 ([a1.getD s3869.2.2.2.2.2.2.toNat 0])))] 3 (fun H => ?_)
            refine And.intro ?_ ?_
            · refine R.loop_fam (bind_st H) [0] [(100000, 2, 5, 1), (5, 0, 51, 6)] (fun _ s5092 => [(5, .own 65)]) (fun _ s5092 => [(0, .cells 55 [.own 63, bS s5092.2.1, .own 64, .v (.int .i64 (s5092.2.2.2.1)), bS a0.2.2.2.2]), (63, .arr 5 1 (s5092.1.length) (ei .u8 (s5092.1))), (64, .arr 5 1 (s5092.2.2.1.length) (ei .u8 (s5092.2.2.1))), (65, .arr 51 6 (s5092.2.2.2.2.length) (ec c51 (s5092.2.2.2.2)))]) 3 (fun n5179 H => ?_)
              refine ⟨(n5179, _), ⟨H⟩, ⟨trivial⟩, ?_⟩
              repeat refine mo1_LiftD4 ?_
              rintro ⟨m0, s5092⟩ H _
              obtain ⟨m5093, hm0, H⟩ := IG_succ H
              dsimp only at hm0
              subst hm0
              try dsimp only at H
              refine if_st H (fun h5151 H => ?_) (fun h5151 H => ?_)
              · refine if_st H (fun h5152 H => ?_) (fun h5152 H => ?_)
                · obtain ⟨v5153, hv5154, H⟩ := call_st H
                  refine ⟨(s5092.1, v5153), ⟨hv5154⟩, ⟨trivial⟩, ?_⟩
                  refine And.intro ⟨by first | rfl | (simp; done), by first | rfl | (simp [ei, eb, es, ec, c51]; done) | (simp only [ei, eb, es, ec, c51, List.map_append, List.nil_append, List.append_assoc]; rfl)⟩ ?_
                  refine if_st H (fun h5155 H => ?_) (fun h5155 H => ?_)
                  · replace H := some_st H
                    dsimp only [stp, sm] at H
                    refine ⟨(s5092.1, s5092.2.1, s5092.2.2.1, s5092.2.2.2.1, s5092.2.2.2.2), ⟨H⟩, ⟨rfl⟩, ?_⟩
                    repeat refine mo1_LiftD4 ?_
                    first | exact trivial | exact rfl
                  · refine And.intro ⟨by kernel_rfl⟩ ?_
                    refine ⟨(Pn.calm 0 (Pn.calm 2 (Pn.calm 3 (Pn.calm 4 (Pn.calm 5 (Pn.calm 6 (Pn.calm 7 (Pn.calm 8 (Pn.eff 1 [] (Pn.eff 9 [1, 8, 5, 7, 4, 6, 3, 2] (Pn.calm 10 (Pn.calm 11 (Pn.eff 12 [11, 9, 0, 1, 2, 3, 4, 5, 6, 7, 8, 10] Pn.done Pn.no))) Pn.no) Pn.no))))))))), ⟨by kernel_rfl⟩, ?_⟩
                    refine ob_ck H fun h5156 H => ?_
                    try dsimp only at h5156
                    intro n5157 hn5158
                    subst hn5158
                    refine And.intro ?_ trivial
                    refine And.intro ⟨fun _ _ _ h => h⟩ ?_
                    refine And.intro ?_ trivial
                    refine And.intro ⟨by first | omega | (dsimp only; omega)⟩ ?_
                    refine ob_app (by decide) (by first | exact (vw_one ei_one) | ((repeat (refine List.forall_mem_cons.2 ⟨rfl, ?_⟩)); intro y hy; cases hy; done) | (intro y hy; simp [ei, eb, es, ec, c51] at hy; (first | (rcases hy with rfl | hy) | subst hy | skip); all_goals first | rfl | simp_all [Value.oneCell'])) H fun h5159 H => ?_
                    intro n5160 zs5162 hn5161 hz5163
                    obtain rfl : n5160 = (([] : List Int) ++ ((s5092.1.drop v5153.1.toNat).take (((s5092.1.length : Nat) : Int).toNat - v5153.1.toNat))).length := hn5161.trans (by first | exact List.length_append.symm | (simp; done) | (simp; omega))
                    obtain rfl : zs5162 = ei .u8 (([] : List Int) ++ ((s5092.1.drop v5153.1.toNat).take (((s5092.1.length : Nat) : Int).toNat - v5153.1.toNat))) := by first | exact hz5163.trans (ei_app (xs := ([] : List Int)) (ys := ((s5092.1.drop v5153.1.toNat).take (((s5092.1.length : Nat) : Int).toNat - v5153.1.toNat)))).symm | (rw [hz5163, ei_vw]; first | exact ei_app.symm | exact (ei_app (xs := ([] : List Int))).symm) | (rw [hz5163]; simp [ei, eb, es, ec, c51])
                    refine And.intro ⟨fun _ _ _ h => h⟩ ?_
                    refine And.intro ?_ trivial
                    refine And.intro ⟨fun _ _ _ h => h⟩ ?_
                    refine R.cut_fam H 101 [0, 6, 31, 32, 33, 34, 35] [] (fun v5170 => [(5, .own 101)]) (fun v5170 => [(101, .arr 51 6 (v5170.length) (ec c51 (v5170)))]) [(64, .arr 5 1 (s5092.2.2.1.length) (ei .u8 (s5092.2.2.1))), (4, .cells 26 [.own 29]), (5, .cells 3 [.v (.int .i64 (s3869.2.2.2.2.2.1))]), (29, .arr 51 6 (s3869.2.2.2.2.1.length) (ec c51 (s3869.2.2.2.2.1))), (3, .cells 24 [.lp 0 0]), (17, .cells 22 [.v (.slice (A1) (a1.length) (cp1))]), (21, .loop .busy none), (22, .dfr), (56, .arr 5 1 (1) (ei .u8 ([a1.getD s3869.2.2.2.2.2.2.toNat 0]))), (0, .cells 55 [.own 90, bS s5092.2.1, .own 64, .v (.int .i64 (s5092.2.2.2.1)), bS a0.2.2.2.2]), (63, .arr 5 1 (s5092.1.length) (ei .u8 (s5092.1))), (84, .cells 71 [.v (.int .i64 (v5153.1)), .v (.int .i64 (v5153.2.1)), .v (.string (v5153.2.2.1)), .v (.int .i64 (v5153.2.2.2.1)), bS v5153.2.2.2.2.1, bS v5153.2.2.2.2.2.1, bS v5153.2.2.2.2.2.2.1, bS v5153.2.2.2.2.2.2.2.1, bS v5153.2.2.2.2.2.2.2.2]), (90, .arr 5 1 ((([] : List Int) ++ ((s5092.1.drop v5153.1.toNat).take (((s5092.1.length : Nat) : Int).toNat - v5153.1.toNat))).length) (ei .u8 ((([] : List Int) ++ ((s5092.1.drop v5153.1.toNat).take (((s5092.1.length : Nat) : Int).toNat - v5153.1.toNat))))))] 1 (fun H => ?_)
                    refine And.intro ?_ ?_
                    · refine if_st H (fun h5172 H => ?_) (fun h5172 H => ?_)
                      · refine ob_app (by decide) (by first | exact (ec_one c51_one) | ((repeat (refine List.forall_mem_cons.2 ⟨rfl, ?_⟩)); intro y hy; cases hy; done) | (intro y hy; simp [ei, eb, es, ec, c51] at hy; (first | (rcases hy with rfl | hy) | subst hy | skip); all_goals first | rfl | simp_all [Value.oneCell'])) H fun h5173 H => ?_
                        intro n5174 zs5176 hn5175 hz5177
                        obtain rfl : n5174 = (s5092.2.2.2.2 ++ [(v5153.2.1, v5153.2.2.1, v5153.2.2.2.1, v5153.2.2.2.2.1, v5153.2.2.2.2.2.1, v5153.2.2.2.2.2.2.1)]).length := hn5175.trans (by first | exact List.length_append.symm | (simp; done) | (simp; omega))
                        obtain rfl : zs5176 = ec c51 (s5092.2.2.2.2 ++ [(v5153.2.1, v5153.2.2.1, v5153.2.2.2.1, v5153.2.2.2.2.1, v5153.2.2.2.2.2.1, v5153.2.2.2.2.2.2.1)]) := by first | exact hz5177.trans (ec_app (xs := s5092.2.2.2.2) (ys := ([(v5153.2.1, v5153.2.2.1, v5153.2.2.2.1, v5153.2.2.2.2.1, v5153.2.2.2.2.2.1, v5153.2.2.2.2.2.2.1)]))).symm | (rw [hz5177, ec_vw]; first | exact ec_app.symm | exact (ec_app (xs := s5092.2.2.2.2)).symm) | (rw [hz5177]; simp [ei, eb, es, ec, c51])
                        refine ⟨(s5092.2.2.2.2 ++ [(v5153.2.1, v5153.2.2.1, v5153.2.2.2.1, v5153.2.2.2.2.1, v5153.2.2.2.2.2.1, v5153.2.2.2.2.2.2.1)]), ⟨H⟩, ⟨rfl⟩, ?_⟩
                        repeat refine mo1_LiftD4 ?_
                        first | exact trivial | exact rfl
                      · refine ⟨s5092.2.2.2.2, ⟨H⟩, ⟨rfl⟩, ?_⟩
                        repeat refine mo1_LiftD4 ?_
                        first | exact trivial | exact rfl
                    · intro v5170 H
                      refine if_st H (fun h5178 H => ?_) (fun h5178 H => ?_)
                      · replace H := some_st H
                        refine ⟨(m5093, ((([] : List Int) ++ ((s5092.1.drop v5153.1.toNat).take (((s5092.1.length : Nat) : Int).toNat - v5153.1.toNat))), true, [], 0, v5170)), ⟨H, Nat.lt_succ_self _⟩, ⟨trivial⟩, ⟨rfl⟩, ?_⟩
                        repeat refine mo1_LiftD4 ?_
                        first | exact trivial | exact rfl
                      · replace H := some_st H
                        refine ⟨(m5093, ((([] : List Int) ++ ((s5092.1.drop v5153.1.toNat).take (((s5092.1.length : Nat) : Int).toNat - v5153.1.toNat))), s5092.2.1, s5092.2.2.1, s5092.2.2.2.1, v5170)), ⟨H, Nat.lt_succ_self _⟩, ⟨trivial⟩, ⟨rfl⟩, ?_⟩
                        repeat refine mo1_LiftD4 ?_
                        first | exact trivial | exact rfl
                · replace H := some_st H
                  dsimp only [stp, sm] at H
                  refine ⟨(s5092.1, s5092.2.1, s5092.2.2.1, s5092.2.2.2.1, s5092.2.2.2.2), ⟨H⟩, ⟨rfl⟩, ?_⟩
                  repeat refine mo1_LiftD4 ?_
                  first | exact trivial | exact rfl
              · replace H := some_st H
                dsimp only [stp, sm] at H
                refine ⟨(s5092.1, s5092.2.1, s5092.2.2.1, s5092.2.2.2.1, s5092.2.2.2.2), ⟨H⟩, ⟨rfl⟩, ?_⟩
                repeat refine mo1_LiftD4 ?_
                first | exact trivial | exact rfl
            · intro v5088 H
              refine ⟨(v5088.1, v5088.2.1, v5088.2.2.1, v5088.2.2.2.1, v5088.2.2.2.2), ⟨H⟩, ⟨rfl⟩, ?_⟩
              repeat refine mo1_LiftD4 ?_
              first | exact trivial | exact rfl
        · intro v4963 H
          refine ob_ck H fun h5180 H => ?_
          refine if_st H (fun h5181 H => ?_) (fun h5181 H => ?_)
          · refine And.intro ⟨by kernel_rfl⟩ ?_
            refine ⟨(Pn.calm 0 (Pn.calm 1 (Pn.eff 2 [0] (Pn.eff 3 [1, 2, 0] Pn.done Pn.no) Pn.no))), ⟨by kernel_rfl⟩, ?_⟩
            refine And.intro ?_ trivial
            refine And.intro ⟨fun _ _ _ h => h⟩ ?_
            refine And.intro ?_ trivial
            refine And.intro ⟨fun _ _ _ h => h⟩ ?_
            replace H := some_st H
            dsimp only [stp, sm] at H
            have hfin := fin_st H
            repeat refine mf1_LiftD4 ?_
            first | exact trivial | exact rfl
          · refine ob_ck H fun h5182 H => ?_
            replace H := some_st H
            refine ⟨(m3870, (v4963.1, v4963.2.1, v4963.2.2.1, v4963.2.2.2.1, v4963.2.2.2.2, s3869.2.2.2.2.2.1 + 1, s3869.2.2.2.2.2.2 + 1)), ⟨H, Nat.lt_succ_self _⟩, ⟨trivial⟩, ⟨rfl⟩, ?_⟩
            repeat refine mo1_LiftD4 ?_
            first | exact trivial | exact rfl
      · replace H := some_st H
        dsimp only [stp, sm] at H
        refine ⟨(s3869.1, s3869.2.1, s3869.2.2.1, s3869.2.2.2.1, s3869.2.2.2.2.1, s3869.2.2.2.2.2.1), ⟨H⟩, ⟨rfl⟩, ?_⟩
        repeat refine mo1_LiftD4 ?_
        first | exact trivial | exact rfl
    · intro v3865 H
      refine And.intro ⟨by kernel_rfl⟩ ?_
      refine ⟨(Pn.calm 0 (Pn.eff 1 [] (Pn.eff 2 [0, 1] Pn.done Pn.no) Pn.no)), ⟨by kernel_rfl⟩, ?_⟩
      refine And.intro ?_ trivial
      refine And.intro ⟨fun _ _ _ h => h⟩ ?_
      refine And.intro ?_ trivial
      refine And.intro ⟨fun _ _ _ h => h⟩ ?_
      have hfin := fin_st H
      repeat refine mf1_LiftD4 ?_
      first | exact trivial | exact rfl

end Go.Proofs.YtenjkphlbdhaiaaDoor
