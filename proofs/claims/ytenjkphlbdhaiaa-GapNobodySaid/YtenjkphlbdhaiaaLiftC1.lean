/-
  Functions of the program, lifted: each with its walk. Printed by lift.py.
  Nothing here is trusted.
-/
import Derived.Test.YtenjkphlbdhaiaaLiftB2
set_option linter.unusedVariables false
set_option linter.unusedSimpArgs false
namespace Go.Proofs.Ytenjkphlbdhaiaa
open Go Go.Eng

theorem mo1_LiftC1 {p q : Prop} (k : q) (h : p := by first | exact rfl | exact Iff.rfl | exact ⟨rfl, rfl⟩ | exact decide_eq_true_iff | (constructor <;> first | exact rfl | (simp only [ei, eb, es, ec, c135, gmin, gmax, List.map_append, List.flatMap_append, List.nil_append, List.append_nil, List.append_assoc]; done) | omega | (simp only [List.nil_append, List.length_append, List.length_cons, List.length_nil]; omega) | (simp [ei, eb, es, ec, c135, gmin, gmax]; done)) | exact rfl | (simp only [ei, eb, es, ec, c135, gmin, gmax, List.map_append, List.flatMap_append, List.nil_append, List.append_nil, List.append_assoc]; done) | omega | (simp only [List.nil_append, List.length_append, List.length_cons, List.length_nil]; omega) | (simp [ei, eb, es, ec, c135, gmin, gmax]; done) | simp [ei, eb, es, ec, c135, gmin, gmax]) : Ob p ∧ q := ⟨⟨h⟩, k⟩
theorem mf1_LiftC1 {p q : Prop} (k : q) (h : p := by first | (rw [← hfin] <;> first | exact rfl | exact Iff.rfl | exact ⟨rfl, rfl⟩ | exact decide_eq_true_iff | (constructor <;> first | exact rfl | (simp only [ei, eb, es, ec, c135, gmin, gmax, List.map_append, List.flatMap_append, List.nil_append, List.append_nil, List.append_assoc]; done) | omega | (simp only [List.nil_append, List.length_append, List.length_cons, List.length_nil]; omega) | (simp [ei, eb, es, ec, c135, gmin, gmax]; done)) | exact rfl | (simp only [ei, eb, es, ec, c135, gmin, gmax, List.map_append, List.flatMap_append, List.nil_append, List.append_nil, List.append_assoc]; done) | omega | (simp only [List.nil_append, List.length_append, List.length_cons, List.length_nil]; omega) | (simp [ei, eb, es, ec, c135, gmin, gmax]; done) | simp [ei, eb, es, ec, c135, gmin, gmax]) | first | exact rfl | exact Iff.rfl | exact ⟨rfl, rfl⟩ | exact decide_eq_true_iff | (constructor <;> first | exact rfl | (simp only [ei, eb, es, ec, c135, gmin, gmax, List.map_append, List.flatMap_append, List.nil_append, List.append_nil, List.append_assoc]; done) | omega | (simp only [List.nil_append, List.length_append, List.length_cons, List.length_nil]; omega) | (simp [ei, eb, es, ec, c135, gmin, gmax]; done)) | exact rfl | (simp only [ei, eb, es, ec, c135, gmin, gmax, List.map_append, List.flatMap_append, List.nil_append, List.append_nil, List.append_assoc]; done) | omega | (simp only [List.nil_append, List.length_append, List.length_cons, List.length_nil]; omega) | (simp [ei, eb, es, ec, c135, gmin, gmax]; done) | simp [ei, eb, es, ec, c135, gmin, gmax]) : Ob p ∧ q := ⟨⟨h⟩, k⟩
/-- (*placard/cluster.builder).end -/
noncomputable def g100 (a0 : (List ByteArray × List Int × Bool)) : Option ((List ByteArray × List Int × Bool)) :=
  if a0.2.2 = true then
    (
      ck (isBytes a0.2.1) <|
      ck ((a0.1.length + 1) * 16 ≤ 140737488355328) <|
      ck (0 ≤ (0 : Int) ∧ (0 : Int) ≤ (0 : Int) ∧ (0 : Int) ≤ ((a0.2.1.length : Nat) : Int)) <|
      some ((a0.1 ++ [strOf a0.2.1]), (a0.2.1.take ((0 : Int).toNat - (0 : Int).toNat)), false)
    )
  else
    (
      ck (0 ≤ (0 : Int) ∧ (0 : Int) ≤ (0 : Int) ∧ (0 : Int) ≤ ((a0.2.1.length : Nat) : Int)) <|
      some (a0.1, (a0.2.1.take ((0 : Int).toNat - (0 : Int).toNat)), false)
    )
noncomputable def k100 : Eng.CS := { f := 100, calm := false, more := 5, ι := (List ByteArray × List Int × Bool) × (List ByteArray × List Int × Bool), ok := fun i => g100 i.1 = some i.2, rds := fun _ => [], args := fun i => [.w (.lp 0 0)], res := fun i => .tup [], L' := fun i => [(0, .cells 118 [.own 3, .own 4, bS i.2.2.2]), (3, .arr 9 1 i.2.1.length (es i.2.1)), (4, .arr 5 1 i.2.2.1.length (ei .u8 i.2.2.1))], rn := [(100000, 0, 9, 1), (100000, 1, 5, 1)], keys := 3, L := fun i => [(0, .cells 118 [.own 1, .own 2, bS i.1.2.2]), (1, .arr 9 1 i.1.1.length (es i.1.1)), (2, .arr 5 1 i.1.2.1.length (ei .u8 i.1.2.1))] }
set_option maxRecDepth 8000 in
set_option maxHeartbeats 4000000 in
theorem k100_ok : CSOk Try.prog k100 := by
  refine R.cspec Try.func100 nm100 rfl ?_
  rintro ⟨a0, r⟩ hok q _ args hargs
  dsimp only [k100] at hargs ⊢
  match args, hargs with
  | [_], hargs =>
  obtain ⟨rfl, _⟩ := hargs
  refine ⟨envC [] false [], 6, envC_ok (css_nil), ?_⟩
  have H : Gives (g100 a0) (fun a => a = r) := ⟨r, hok, rfl⟩
  unfold g100 at H
  clear hok
  refine if_st H (fun h8 H => ?_) (fun h8 H => ?_)
  · refine And.intro ⟨by kernel_rfl⟩ ?_
    refine ⟨(Pn.calm 0 (Pn.calm 1 (Pn.calm 2 (Pn.calm 3 (Pn.calm 4 (Pn.calm 5 (Pn.calm 6 (Pn.calm 7 (Pn.calm 8 (Pn.calm 9 (Pn.eff 10 [9, 8, 7, 6, 5] (Pn.eff 11 [4, 10, 3, 9, 2, 8, 1, 7, 6, 5] (Pn.calm 12 (Pn.calm 13 (Pn.eff 14 [13, 11, 0, 1, 2, 3, 4, 5, 6, 7, 8, 9, 10, 12] Pn.done Pn.no))) Pn.no) Pn.no))))))))))), ⟨by kernel_rfl⟩, ?_⟩
    refine ob_str (l := a0.2.1) H fun h9 H => ?_
    refine And.intro ?_ trivial
    refine And.intro ⟨rfl⟩ ?_
    refine And.intro ?_ trivial
    refine ob_app (by decide) (by first | exact es_one | ((repeat (refine List.forall_mem_cons.2 ⟨rfl, ?_⟩)); intro y hy; cases hy; done) | (intro y hy; simp [ei, eb, es, ec, c135] at hy; (first | (rcases hy with rfl | hy) | subst hy | skip); all_goals first | rfl | simp_all [Value.oneCell'])) H fun h10 H => ?_
    intro n11 zs13 hn12 hz14
    obtain rfl : n11 = (a0.1 ++ [strOf a0.2.1]).length := hn12.trans (by first | exact List.length_append.symm | (simp; done) | (simp; omega))
    obtain rfl : zs13 = es (a0.1 ++ [strOf a0.2.1]) := by first | exact hz14.trans (es_app (xs := a0.1) (ys := ([strOf a0.2.1]))).symm | (rw [hz14, es_vw]; first | exact es_app.symm | exact (es_app (xs := a0.1)).symm) | (rw [hz14]; simp [ei, eb, es, ec, c135])
    refine And.intro ⟨fun _ _ _ h => h⟩ ?_
    refine And.intro ?_ trivial
    refine And.intro ⟨fun _ _ _ h => h⟩ ?_
    refine ob_ck H fun h15 H => ?_
    try dsimp only at h15
    intro n16 hn17
    subst hn17
    refine And.intro ⟨by first | omega | (dsimp only; omega)⟩ ?_
    intro n18 zs20 hn19 hz21
    obtain rfl : n18 = (a0.2.1.take ((0 : Int).toNat - (0 : Int).toNat)).length := hn19.trans (by rw [List.length_take]; omega)
    obtain rfl : zs20 = ei .u8 (a0.2.1.take ((0 : Int).toNat - (0 : Int).toNat)) := hz21.trans ei_take.symm
    have hfin := fin_st H
    repeat refine mf1_LiftC1 ?_
    first | exact trivial | exact rfl
  · refine ob_ck H fun h22 H => ?_
    try dsimp only at h22
    intro n23 hn24
    subst hn24
    refine And.intro ⟨by first | omega | (dsimp only; omega)⟩ ?_
    intro n25 zs27 hn26 hz28
    obtain rfl : n25 = (a0.2.1.take ((0 : Int).toNat - (0 : Int).toNat)).length := hn26.trans (by rw [List.length_take]; omega)
    obtain rfl : zs27 = ei .u8 (a0.2.1.take ((0 : Int).toNat - (0 : Int).toNat)) := hz28.trans ei_take.symm
    have hfin := fin_st H
    repeat refine mf1_LiftC1 ?_
    first | exact trivial | exact rfl

/-- (*placard/cluster.builder).add -/
noncomputable def g99 (a0 : (List ByteArray × List Int × Bool)) (a1 : Int) : Option ((List ByteArray × List Int × Bool)) :=
  (g120 a1).bind fun v41 =>
  if v41 = true then
    (
      (g100 (a0.1, a0.2.1, a0.2.2)).bind fun v44 =>
      (g119 a1).bind fun v46 =>
      ck ((v44.2.1.length + v46.length) * 1 ≤ 140737488355328) <|
      some (v44.1, (v44.2.1 ++ v46), true)
    )
  else
    (
      if ¬ (a0.2.2 = true) then
        some (a0.1, a0.2.1, a0.2.2)
      else
        (
          (g118 a1).bind fun v58 =>
          if ¬ (v58 = true) then
            some (a0.1, a0.2.1, a0.2.2)
          else
            (
              (g119 a1).bind fun v61 =>
              ck (inR .i64 (((a0.2.1.length : Nat) : Int) + ((v61.length : Nat) : Int))) <|
              if (((a0.2.1.length : Nat) : Int) + ((v61.length : Nat) : Int)) ≤ 64 then
                (
                  ck ((a0.2.1.length + v61.length) * 1 ≤ 140737488355328) <|
                  some (a0.1, (a0.2.1 ++ v61), a0.2.2)
                )
              else
                some (a0.1, a0.2.1, a0.2.2)
            )
        )
    )
noncomputable def k99 : Eng.CS := { f := 99, calm := false, more := 5, ι := (List ByteArray × List Int × Bool) × Int × (List ByteArray × List Int × Bool), ok := fun i => g99 i.1 i.2.1 = some i.2.2, rds := fun _ => [], args := fun i => [.w (.lp 0 0), .w (.v (.int .i32 (i.2.1)))], res := fun i => .tup [], L' := fun i => [(0, .cells 118 [.own 3, .own 4, bS i.2.2.2.2]), (3, .arr 9 1 i.2.2.1.length (es i.2.2.1)), (4, .arr 5 1 i.2.2.2.1.length (ei .u8 i.2.2.2.1))], rn := [(100000, 0, 9, 1), (100000, 1, 5, 1)], keys := 3, L := fun i => [(0, .cells 118 [.own 1, .own 2, bS i.1.2.2]), (1, .arr 9 1 i.1.1.length (es i.1.1)), (2, .arr 5 1 i.1.2.1.length (ei .u8 i.1.2.1))] }
set_option maxRecDepth 8000 in
set_option maxHeartbeats 4000000 in
theorem k99_ok : CSOk Try.prog k99 := by
  refine R.cspec Try.func99 nm99 rfl ?_
  rintro ⟨a0, a1, r⟩ hok q _ args hargs
  dsimp only [k99] at hargs ⊢
  match args, hargs with
  | [_, _], hargs =>
  obtain ⟨rfl, rfl, _⟩ := hargs
  refine ⟨envC [k100, k118, k119, k120] false [], 6, envC_ok (css_cons ⟨fun h => (by cases h), fun _ => k100_ok⟩ (css_cons ⟨fun _ => k118_ok, fun h => (by cases h)⟩ (css_cons ⟨fun h => (by cases h), fun _ => k119_ok⟩ (css_cons ⟨fun _ => k120_ok, fun h => (by cases h)⟩ (css_nil))))), ?_⟩
  have H : Gives (g99 a0 a1) (fun a => a = r) := ⟨r, hok, rfl⟩
  unfold g99 at H
  clear hok
  obtain ⟨v41, hv42, H⟩ := call_st H
  refine ⟨(a1, v41), ⟨hv42⟩, ⟨trivial⟩, ?_⟩
  refine And.intro ⟨rfl⟩ ?_
  refine if_st H (fun h43 H => ?_) (fun h43 H => ?_)
  · obtain ⟨v44, hv45, H⟩ := call_st H
    refine ⟨((a0.1, a0.2.1, a0.2.2), v44), ⟨hv45⟩, ⟨trivial⟩, ?_⟩
    refine And.intro ⟨rfl⟩ ?_
    refine mo1_LiftC1 ?_
    refine mo1_LiftC1 ?_
    refine mo1_LiftC1 ?_
    refine And.intro ⟨by kernel_rfl⟩ ?_
    refine ⟨(Pn.calm 0 (Pn.calm 1 (Pn.calm 2 (Pn.calm 3 (Pn.calm 4 (Pn.calm 5 (Pn.eff 6 [5] (Pn.eff 7 [4, 6, 3, 5, 2, 1] (Pn.calm 8 (Pn.calm 9 (Pn.eff 10 [9, 7, 0, 1, 2, 3, 4, 5, 6, 8] Pn.done Pn.no))) Pn.no) Pn.no))))))), ⟨by kernel_rfl⟩, ?_⟩
    refine And.intro ?_ trivial
    obtain ⟨v46, hv47, H⟩ := call_st H
    refine ⟨(a1, v46), ⟨hv47⟩, ⟨trivial⟩, ?_⟩
    refine And.intro ⟨rfl⟩ ?_
    refine And.intro ⟨rfl⟩ ?_
    refine And.intro ?_ trivial
    refine ob_app (by decide) (by first | exact ei_one | ((repeat (refine List.forall_mem_cons.2 ⟨rfl, ?_⟩)); intro y hy; cases hy; done) | (intro y hy; simp [ei, eb, es, ec, c135] at hy; (first | (rcases hy with rfl | hy) | subst hy | skip); all_goals first | rfl | simp_all [Value.oneCell'])) H fun h48 H => ?_
    intro n49 zs51 hn50 hz52
    obtain rfl : n49 = (v44.2.1 ++ v46).length := hn50.trans (by first | exact List.length_append.symm | (simp; done) | (simp; omega))
    obtain rfl : zs51 = ei .u8 (v44.2.1 ++ v46) := by first | exact hz52.trans (ei_app (xs := v44.2.1) (ys := v46)).symm | (rw [hz52, ei_vw]; first | exact ei_app.symm | exact (ei_app (xs := v44.2.1)).symm) | (rw [hz52]; simp [ei, eb, es, ec, c135])
    refine And.intro ⟨fun _ _ _ h => h⟩ ?_
    refine And.intro ?_ trivial
    refine And.intro ⟨fun _ _ _ h => h⟩ ?_
    have hfin := fin_st H
    repeat refine mf1_LiftC1 ?_
    first | exact trivial | exact rfl
  · refine if_st H (fun h57 H => ?_) (fun h57 H => ?_)
    · have hfin := fin_st H
      repeat refine mf1_LiftC1 ?_
      first | exact trivial | exact rfl
    · obtain ⟨v58, hv59, H⟩ := call_st H
      refine ⟨(a1, v58), ⟨hv59⟩, ⟨trivial⟩, ?_⟩
      refine And.intro ⟨rfl⟩ ?_
      refine if_st H (fun h60 H => ?_) (fun h60 H => ?_)
      · have hfin := fin_st H
        repeat refine mf1_LiftC1 ?_
        first | exact trivial | exact rfl
      · obtain ⟨v61, hv62, H⟩ := call_st H
        refine ⟨(a1, v61), ⟨hv62⟩, ⟨trivial⟩, ?_⟩
        refine And.intro ⟨rfl⟩ ?_
        refine ob_ck H fun h63 H => ?_
        refine if_st H (fun h64 H => ?_) (fun h64 H => ?_)
        · refine ob_app (by decide) (by first | exact ei_one | ((repeat (refine List.forall_mem_cons.2 ⟨rfl, ?_⟩)); intro y hy; cases hy; done) | (intro y hy; simp [ei, eb, es, ec, c135] at hy; (first | (rcases hy with rfl | hy) | subst hy | skip); all_goals first | rfl | simp_all [Value.oneCell'])) H fun h65 H => ?_
          intro n66 zs68 hn67 hz69
          obtain rfl : n66 = (a0.2.1 ++ v61).length := hn67.trans (by first | exact List.length_append.symm | (simp; done) | (simp; omega))
          obtain rfl : zs68 = ei .u8 (a0.2.1 ++ v61) := by first | exact hz69.trans (ei_app (xs := a0.2.1) (ys := v61)).symm | (rw [hz69, ei_vw]; first | exact ei_app.symm | exact (ei_app (xs := a0.2.1)).symm) | (rw [hz69]; simp [ei, eb, es, ec, c135])
          have hfin := fin_st H
          repeat refine mf1_LiftC1 ?_
          first | exact trivial | exact rfl
        · have hfin := fin_st H
          repeat refine mf1_LiftC1 ?_
          first | exact trivial | exact rfl

/-- placard/cluster.Cut -/
noncomputable def g67 (a0 : ByteArray) : Option (List ByteArray) :=
  jn (α := _) (β := List ByteArray × List Int × Bool) (fun k171 =>
      ck (a0.size ≤ 140737488355328) <|
      (loopO (σ := List ByteArray × List Int × Bool × Int) (ρ := List ByteArray × List Int × Bool) (fun s183 =>
          if s183.2.2.2 < (((bytesOf a0).length : Nat) : Int) then
            (
              ck (0 ≤ s183.2.2.2 ∧ s183.2.2.2 ≤ (((bytesOf a0).length : Nat) : Int) ∧ (((bytesOf a0).length : Nat) : Int) ≤ (((bytesOf a0).length : Nat) : Int)) <|
              (g131 (((bytesOf a0).drop s183.2.2.2.toNat).take ((((bytesOf a0).length : Nat) : Int).toNat - s183.2.2.2.toNat))).bind fun v235 =>
              if v235.2.2 = true then
                (
                  (g98 65533).bind fun v238 =>
                  if v238 = true then
                    (
                      ck (inR .i64 (s183.2.2.2 + 1)) <|
                      some (.go (s183.1, s183.2.1, s183.2.2.1, s183.2.2.2 + 1))
                    )
                  else
                    (
                      (g99 (s183.1, s183.2.1, s183.2.2.1) 65533).bind fun v242 =>
                      ck (inR .i64 (s183.2.2.2 + 1)) <|
                      some (.go (v242.1, v242.2.1, v242.2.2, s183.2.2.2 + 1))
                    )
                )
              else
                (
                  (g98 v235.1).bind fun v245 =>
                  if v245 = true then
                    (
                      ck (inR .i64 (s183.2.2.2 + v235.2.1)) <|
                      some (.go (s183.1, s183.2.1, s183.2.2.1, s183.2.2.2 + v235.2.1))
                    )
                  else
                    (
                      (g99 (s183.1, s183.2.1, s183.2.2.1) v235.1).bind fun v249 =>
                      ck (inR .i64 (s183.2.2.2 + v235.2.1)) <|
                      some (.go (v249.1, v249.2.1, v249.2.2, s183.2.2.2 + v235.2.1))
                    )
                )
            )
          else
            some (.out (s183.1, s183.2.1, s183.2.2.1))
        ) ([], [], false, 0)).bind fun o229 =>
        k171 (o229.1, o229.2.1, o229.2.2)
  ) (fun v170 =>
    (g100 (v170.1, v170.2.1, v170.2.2)).bind fun v253 =>
    some v253.1
  )
noncomputable def k67 : Eng.CS := { f := 67, calm := false, more := 1, ι := ByteArray × List ByteArray, ok := fun i => g67 i.1 = some i.2, rds := fun _ => [], args := fun i => [.w (.v (.string (i.1)))], res := fun i => .own 0, L' := fun i => [(0, .arr 9 1 i.2.length (es i.2))], rn := [(0, 0, 9, 1)] }
set_option maxRecDepth 8000 in
set_option maxHeartbeats 4000000 in
theorem k67_ok : CSOk Try.prog k67 := by
  refine R.cspec Try.func67 nm67 rfl ?_
  rintro ⟨a0, r⟩ hok q _ args hargs
  match args, hargs with
  | [_], hargs =>
  obtain ⟨rfl, _⟩ := hargs
  refine ⟨envC [k98, k99, k100, k131] false [(67, 6)], 6, envC_ok (css_cons ⟨fun _ => k98_ok, fun h => (by cases h)⟩ (css_cons ⟨fun h => (by cases h), fun _ => k99_ok⟩ (css_cons ⟨fun h => (by cases h), fun _ => k100_ok⟩ (css_cons ⟨fun _ => k131_ok, fun h => (by cases h)⟩ (css_nil))))), ?_⟩
  have H : Gives (g67 a0) (fun a => a = r) := ⟨r, hok, rfl⟩
  unfold g67 at H
  clear hok
  refine R.cut_famG H 28 [3] [] [] (fun v170 => []) (fun v170 => [(1, .cells 118 [.own 28, .own 29, bS v170.2.2]), (28, .arr 9 1 (v170.1.length) (es (v170.1))), (29, .arr 5 1 (v170.2.1.length) (ei .u8 (v170.2.1)))]) [] 2 (fun H => ?_)
  refine And.intro ?_ ?_
  · refine ob_sb H fun h177 H q178 A172 c173 hq174 hc175 hR176 => ?_
    intro n179 hn180
    obtain rfl : n179 = (bytesOf a0).length := hn180.trans (bytesOf_len a0).symm
    refine R.loop_fam (bind_st H) [0, 1] [(100001, 0, 9, 1), (100001, 1, 5, 1)] (fun _ s183 => [(3, .v (.int .i64 (s183.2.2.2)))]) (fun _ s183 => [(1, .cells 118 [.own 18, .own 19, bS s183.2.2.1]), (18, .arr 9 1 (s183.1.length) (es (s183.1))), (19, .arr 5 1 (s183.2.1.length) (ei .u8 (s183.2.1)))]) 2 (fun n252 H => ?_)
    refine ⟨(n252, _), ⟨H⟩, ⟨trivial⟩, ?_⟩
    repeat refine mo1_LiftC1 ?_
    rintro ⟨m0, s183⟩ H _
    obtain ⟨m184, hm0, H⟩ := IG_succ H
    dsimp only at hm0
    subst hm0
    try dsimp only at H
    refine if_st H (fun h230 H => ?_) (fun h230 H => ?_)
    · refine ob_sl (Nat.le_trans (Nat.le_of_eq (bytesOf_len a0)) hc175) H fun h231 H => ?_
      have hs232 := sl_ei hR176 rfl (Nat.le_trans (Nat.le_of_eq (bytesOf_len a0)) hc175) h231
      intro n233 hn234
      obtain rfl : n233 = (((bytesOf a0).drop s183.2.2.2.toNat).take ((((bytesOf a0).length : Nat) : Int).toNat - s183.2.2.2.toNat)).length := hn234.trans hs232.2.1.symm
      obtain ⟨v235, hv236, H⟩ := call_st H
      refine ⟨((((bytesOf a0).drop s183.2.2.2.toNat).take ((((bytesOf a0).length : Nat) : Int).toNat - s183.2.2.2.toNat)), v235), ⟨hv236⟩, ⟨trivial⟩, ?_⟩
      refine And.intro ⟨rfl, (Nat.le_trans (Nat.le_of_eq hs232.2.1) hs232.2.2), ei_len.trans ((show _ = _ from rfl).trans (Nat.mul_one _).symm), hs232.1⟩ ?_
      refine if_st H (fun h237 H => ?_) (fun h237 H => ?_)
      · obtain ⟨v238, hv239, H⟩ := call_st H
        refine ⟨(65533, v238), ⟨hv239⟩, ⟨trivial⟩, ?_⟩
        refine And.intro ⟨rfl⟩ ?_
        refine if_st H (fun h240 H => ?_) (fun h240 H => ?_)
        · refine ob_ck H fun h241 H => ?_
          replace H := some_st H
          refine ⟨(m184, (s183.1, s183.2.1, s183.2.2.1, s183.2.2.2 + 1)), ⟨H, Nat.lt_succ_self _⟩, ⟨trivial⟩, ⟨rfl⟩, ?_⟩
          repeat refine mo1_LiftC1 ?_
          first | exact trivial | exact rfl
        · obtain ⟨v242, hv243, H⟩ := call_st H
          refine ⟨((s183.1, s183.2.1, s183.2.2.1), 65533, v242), ⟨hv243⟩, ⟨trivial⟩, ?_⟩
          refine And.intro ⟨rfl⟩ ?_
          refine And.intro ⟨rfl⟩ ?_
          refine mo1_LiftC1 ?_
          refine mo1_LiftC1 ?_
          refine mo1_LiftC1 ?_
          refine ob_ck H fun h244 H => ?_
          replace H := some_st H
          refine ⟨(m184, (v242.1, v242.2.1, v242.2.2, s183.2.2.2 + 1)), ⟨H, Nat.lt_succ_self _⟩, ⟨trivial⟩, ⟨rfl⟩, ?_⟩
          repeat refine mo1_LiftC1 ?_
          first | exact trivial | exact rfl
      · obtain ⟨v245, hv246, H⟩ := call_st H
        refine ⟨(v235.1, v245), ⟨hv246⟩, ⟨trivial⟩, ?_⟩
        refine And.intro ⟨rfl⟩ ?_
        refine if_st H (fun h247 H => ?_) (fun h247 H => ?_)
        · refine ob_ck H fun h248 H => ?_
          replace H := some_st H
          refine ⟨(m184, (s183.1, s183.2.1, s183.2.2.1, s183.2.2.2 + v235.2.1)), ⟨H, Nat.lt_succ_self _⟩, ⟨trivial⟩, ⟨rfl⟩, ?_⟩
          repeat refine mo1_LiftC1 ?_
          first | exact trivial | exact rfl
        · obtain ⟨v249, hv250, H⟩ := call_st H
          refine ⟨((s183.1, s183.2.1, s183.2.2.1), v235.1, v249), ⟨hv250⟩, ⟨trivial⟩, ?_⟩
          refine And.intro ⟨rfl⟩ ?_
          refine And.intro ⟨rfl⟩ ?_
          refine mo1_LiftC1 ?_
          refine mo1_LiftC1 ?_
          refine mo1_LiftC1 ?_
          refine ob_ck H fun h251 H => ?_
          replace H := some_st H
          refine ⟨(m184, (v249.1, v249.2.1, v249.2.2, s183.2.2.2 + v235.2.1)), ⟨H, Nat.lt_succ_self _⟩, ⟨trivial⟩, ⟨rfl⟩, ?_⟩
          repeat refine mo1_LiftC1 ?_
          first | exact trivial | exact rfl
    · replace H := some_st H
      dsimp only [stp, sm] at H
      refine ⟨(s183.1, s183.2.1, s183.2.2.1), ⟨H⟩, ⟨fun _ _ _ h => (hq174 _ _ _ h)⟩, ?_⟩
      repeat refine mo1_LiftC1 ?_
      first | exact trivial | exact rfl
  · intro q169 hq168 v170 H
    obtain ⟨v253, hv254, H⟩ := call_st H
    refine ⟨((v170.1, v170.2.1, v170.2.2), v253), ⟨hv254⟩, ⟨trivial⟩, ?_⟩
    refine And.intro ⟨rfl⟩ ?_
    refine mo1_LiftC1 ?_
    refine mo1_LiftC1 ?_
    refine mo1_LiftC1 ?_
    have hfin := fin_st H
    repeat refine mf1_LiftC1 ?_
    first | exact trivial | exact rfl

/-- placard/cluster.Is -/
noncomputable def g56 (a0 : ByteArray) : Option (Bool) :=
  (g67 a0).bind fun v255 =>
  if ((v255.length : Nat) : Int) = 1 then
    (
      ck (0 ≤ (0 : Int) ∧ 0 < ((v255.length : Nat) : Int)) <|
      some (decide ((v255.getD (0 : Int).toNat default).data.toList = a0.data.toList))
    )
  else
    some false
noncomputable def k56 : Eng.CS := { f := 56, calm := true, more := 0, ι := ByteArray × Bool, ok := fun i => g56 i.1 = some i.2, rds := fun _ => [], args := fun i => [.w (.v (.string (i.1)))], res := fun i => bS i.2 }
set_option maxRecDepth 8000 in
set_option maxHeartbeats 4000000 in
theorem k56_ok : CalmOk Try.prog k56 := by
  refine R.calmspec Try.func56 nm56 rfl ?_
  rintro ⟨a0, r⟩ hok q _ args hargs
  match args, hargs with
  | [_], hargs =>
  obtain ⟨rfl, _⟩ := hargs
  refine ⟨envC [k67] false [], 6, envC_ok (css_cons ⟨fun h => (by cases h), fun _ => k67_ok⟩ (css_nil)), rfl, (by intro x hx; simp only [List.mem_cons, List.not_mem_nil, or_false] at hx; rcases hx with rfl <;> rfl), ?_⟩
  have H : Gives (g56 a0) (fun a => a = r) := ⟨r, hok, rfl⟩
  unfold g56 at H
  clear hok
  obtain ⟨v255, hv256, H⟩ := call_st H
  refine ⟨(a0, v255), ⟨hv256⟩, ⟨trivial⟩, ?_⟩
  refine And.intro ⟨rfl⟩ ?_
  refine if_st H (fun h257 H => ?_) (fun h257 H => ?_)
  · refine ob_ck H fun h258 H => ?_
    refine ld_str (e := v255.getD (0 : Int).toNat default) (own_get (ys := es v255) (by first | rfl | simp [ei, eb, es, ec, c135]) (es_get (l := v255) (by first | exact tn h258 | (have := tn h258; simp at this ⊢; omega) | (have := tn h258; simp; omega)))) ?_
    have hfin := fin_st H
    repeat refine mf1_LiftC1 ?_
    first | exact trivial | exact rfl
  · have hfin := fin_st H
    repeat refine mf1_LiftC1 ?_
    first | exact trivial | exact rfl

end Go.Proofs.Ytenjkphlbdhaiaa
