/-
  Functions of the program, lifted: each with its walk. Printed by lift.py.
  Nothing here is trusted.
-/
import Derived.Test.YtenjkphlbdhaiaaDoorLiftD5
set_option linter.unusedVariables false
set_option linter.unusedSimpArgs false
namespace Go.Proofs.YtenjkphlbdhaiaaDoor
open Go Go.Eng

theorem mo1_LiftD6 {p q : Prop} (k : q) (h : p := by first | exact rfl | exact Iff.rfl | exact ⟨rfl, rfl⟩ | exact decide_eq_true_iff | (constructor <;> first | exact rfl | (simp only [ei, eb, es, ec, c51, gmin, gmax, List.map_append, List.flatMap_append, List.nil_append, List.append_nil, List.append_assoc]; done) | omega | (simp only [List.nil_append, List.length_append, List.length_cons, List.length_nil]; omega) | (simp [ei, eb, es, ec, c51, gmin, gmax]; done)) | exact rfl | (simp only [ei, eb, es, ec, c51, gmin, gmax, List.map_append, List.flatMap_append, List.nil_append, List.append_nil, List.append_assoc]; done) | omega | (simp only [List.nil_append, List.length_append, List.length_cons, List.length_nil]; omega) | (simp [ei, eb, es, ec, c51, gmin, gmax]; done) | simp [ei, eb, es, ec, c51, gmin, gmax]) : Ob p ∧ q := ⟨⟨h⟩, k⟩
theorem mf1_LiftD6 {p q : Prop} (k : q) (h : p := by first | (rw [← hfin] <;> first | exact rfl | exact Iff.rfl | exact ⟨rfl, rfl⟩ | exact decide_eq_true_iff | (constructor <;> first | exact rfl | (simp only [ei, eb, es, ec, c51, gmin, gmax, List.map_append, List.flatMap_append, List.nil_append, List.append_nil, List.append_assoc]; done) | omega | (simp only [List.nil_append, List.length_append, List.length_cons, List.length_nil]; omega) | (simp [ei, eb, es, ec, c51, gmin, gmax]; done)) | exact rfl | (simp only [ei, eb, es, ec, c51, gmin, gmax, List.map_append, List.flatMap_append, List.nil_append, List.append_nil, List.append_assoc]; done) | omega | (simp only [List.nil_append, List.length_append, List.length_cons, List.length_nil]; omega) | (simp [ei, eb, es, ec, c51, gmin, gmax]; done) | simp [ei, eb, es, ec, c51, gmin, gmax]) | first | exact rfl | exact Iff.rfl | exact ⟨rfl, rfl⟩ | exact decide_eq_true_iff | (constructor <;> first | exact rfl | (simp only [ei, eb, es, ec, c51, gmin, gmax, List.map_append, List.flatMap_append, List.nil_append, List.append_nil, List.append_assoc]; done) | omega | (simp only [List.nil_append, List.length_append, List.length_cons, List.length_nil]; omega) | (simp [ei, eb, es, ec, c51, gmin, gmax]; done)) | exact rfl | (simp only [ei, eb, es, ec, c51, gmin, gmax, List.map_append, List.flatMap_append, List.nil_append, List.append_nil, List.append_assoc]; done) | omega | (simp only [List.nil_append, List.length_append, List.length_cons, List.length_nil]; omega) | (simp [ei, eb, es, ec, c51, gmin, gmax]; done) | simp [ei, eb, es, ec, c51, gmin, gmax]) : Ob p ∧ q := ⟨⟨h⟩, k⟩
/-- placard/placardref07.Feed -/
noncomputable def g13 (a0 : (List Int × Bool)) (a1 : List Int) : Option ((List Int × Bool) × List (Int × ByteArray × Int × Bool × Bool × Bool)) :=
  ck ((0 + a0.1.length) * 1 ≤ 140737488355328) <|
  ck (((([] : List Int) ++ a0.1).length + a1.length) * 1 ≤ 140737488355328) <|
  jn (α := _) (β := List Int) (fun k20 =>
      k20 ((([] : List Int) ++ a0.1) ++ a1)
  ) (fun v19 =>
    jn (α := _) (β := List Int × Bool × List (Int × ByteArray × Int × Bool × Bool × Bool)) (fun k183 =>
        (loopO (σ := List Int × Bool × List (Int × ByteArray × Int × Bool × Bool × Bool)) (ρ := (List Int × Bool × List Int × Bool × List (Int × ByteArray × Int × Bool × Bool × Bool)) ⊕ (List Int × Bool × List (Int × ByteArray × Int × Bool × Bool × Bool))) (fun s186 =>
            if 0 < ((s186.1.length : Nat) : Int) then
              (
                if s186.2.1 = true then
                  (
                    (g25 s186.1).bind fun v263 =>
                    if v263 < 0 then
                      some (.out (.inl ((s186.1, s186.2.1, s186.1, s186.2.1, s186.2.2))))
                    else
                      (
                        ck (0 ≤ (0 : Int) ∧ (0 : Int) ≤ gmin v263 65536 ∧ gmin v263 65536 ≤ ((s186.1.length : Nat) : Int)) <|
                        (g26 ((s186.1.drop (0 : Int).toNat).take ((gmin v263 65536).toNat - (0 : Int).toNat))).bind fun v276 =>
                        ck ((s186.2.2.length + 1) * 40 ≤ 140737488355328) <|
                        ck (inR .i64 (v263 + 6)) <|
                        ck (0 ≤ v263 + 6 ∧ v263 + 6 ≤ ((s186.1.length : Nat) : Int) ∧ ((s186.1.length : Nat) : Int) ≤ ((s186.1.length : Nat) : Int)) <|
                        some (.go (((s186.1.drop (v263 + 6).toNat).take (((s186.1.length : Nat) : Int).toNat - (v263 + 6).toNat)), false, (s186.2.2 ++ [(16, v276, 0, false, false, false)])))
                      )
                  )
                else
                  (
                    (g27 s186.1).bind fun v288 =>
                    if v288.1 = 0 then
                      some (.out (.inl ((s186.1, s186.2.1, s186.1, s186.2.1, s186.2.2))))
                    else
                      (
                        ck (0 ≤ v288.1 ∧ v288.1 ≤ ((s186.1.length : Nat) : Int) ∧ ((s186.1.length : Nat) : Int) ≤ ((s186.1.length : Nat) : Int)) <|
                        if v288.2.2.2.2.2.2.2.1 = true then
                          (
                            ck ((s186.2.2.length + 1) * 40 ≤ 140737488355328) <|
                            some (.go (((s186.1.drop v288.1.toNat).take (((s186.1.length : Nat) : Int).toNat - v288.1.toNat)), v288.2.2.2.2.2.2.2.2, (s186.2.2 ++ [(v288.2.1, v288.2.2.1, v288.2.2.2.1, v288.2.2.2.2.1, v288.2.2.2.2.2.1, v288.2.2.2.2.2.2.1)])))
                          )
                        else
                          some (.go (((s186.1.drop v288.1.toNat).take (((s186.1.length : Nat) : Int).toNat - v288.1.toNat)), v288.2.2.2.2.2.2.2.2, s186.2.2))
                      )
                  )
              )
            else
              some (.out (.inr ((s186.1, s186.2.1, s186.2.2))))
          ) (v19, a0.2, [])).bind fun o260 =>
        sm o260 (fun o307 =>
            some ((o307.2.2.1, o307.2.2.2.1), o307.2.2.2.2)
          ) (fun o322 =>
            k183 (o322.1, o322.2.1, o322.2.2)
          )
    ) (fun v182 =>
      some ((v182.1, v182.2.1), v182.2.2)
    )
  )
noncomputable def k13 : Eng.CS := { f := 13, calm := false, more := 0, ι := (List Int × Bool) × (List Int) × ((List Int × Bool) × List (Int × ByteArray × Int × Bool × Bool × Bool)) × ((Option Addr × Nat) × (Option Addr × Nat)), ok := fun i => g13 i.1 i.2.1 = some i.2.2.1 ∧ i.1.1.length ≤ i.2.2.2.1.2 ∧ i.2.1.length ≤ i.2.2.2.2.2, rds := fun i => [(i.2.2.2.1.1, ei .u8 i.1.1), (i.2.2.2.2.1, ei .u8 i.2.1)], args := fun i => [.w (.agg [.v (.slice i.2.2.2.1.1 i.1.1.length i.2.2.2.1.2), bS i.1.2]), .w (.v (.slice i.2.2.2.2.1 i.2.1.length i.2.2.2.2.2))], res := fun _ => .bad, rn := [], gr := true, γ := (Option Addr × Nat) × (Option Addr × Nat), resG := fun i g => .tup [.agg [.v (.slice g.1.1 i.2.2.1.1.1.length g.1.2), bS i.2.2.1.1.2], .v (.slice g.2.1 i.2.2.1.2.length g.2.2)], LG := fun i _ => [], okG := fun i g => i.2.2.1.1.1.length ≤ g.1.2 ∧ i.2.2.1.2.length ≤ g.2.2, rdsG := fun i g => [(g.1.1, ei .u8 i.2.2.1.1.1), (g.2.1, ec c51 i.2.2.1.2)], fzr := [(0, 0), (1, 0)] }
set_option maxRecDepth 8000 in
set_option maxHeartbeats 4000000 in
theorem k13_ok : CSOk Tryd.prog k13 := by
  refine R.cspecG Tryd.func13 nm13 rfl rfl (fun _ => rfl) ?_
  rintro ⟨a0, a1, r, ⟨⟨A0_0, cp0_0⟩, ⟨A1_0, cp1_0⟩⟩⟩ ⟨hok, hc0_0, hc1_0⟩ q ⟨hR0_0, hR1_0, _⟩ args hargs
  dsimp only at hR0_0 hc0_0 hR1_0 hc1_0
  dsimp only [k13] at hargs ⊢
  match args, hargs with
  | [_, _], hargs =>
  obtain ⟨rfl, rfl, _⟩ := hargs
  refine ⟨envC [k25, k26, k27] false [(13, 3), (13, 17)], 6, envC_ok (css_cons ⟨fun _ => k25_ok, fun h => (by cases h)⟩ (css_cons ⟨fun _ => k26_ok, fun h => (by cases h)⟩ (css_cons ⟨fun _ => k27_ok, fun h => (by cases h)⟩ (css_nil)))), ?_⟩
  have H : Gives (g13 a0 a1) (fun a => a = r) := ⟨r, hok, rfl⟩
  unfold g13 at H
  clear hok
  refine rs_st hR0_0 (ei_len.trans (Nat.mul_one _).symm) ?_
  refine ob_app (by decide) (by first | exact ei_one | ((repeat (refine List.forall_mem_cons.2 ⟨rfl, ?_⟩)); intro y hy; cases hy; done) | (intro y hy; simp [ei, eb, es, ec, c51] at hy; (first | (rcases hy with rfl | hy) | subst hy | skip); all_goals first | rfl | simp_all [Value.oneCell'])) H fun h1 H => ?_
  intro n2 zs4 hn3 hz5
  obtain rfl : n2 = (([] : List Int) ++ a0.1).length := hn3.trans (by first | exact List.length_append.symm | (simp; done) | (simp; omega))
  obtain rfl : zs4 = ei .u8 (([] : List Int) ++ a0.1) := by first | exact hz5.trans (ei_app (xs := ([] : List Int)) (ys := a0.1)).symm | (rw [hz5, ei_vw]; first | exact ei_app.symm | exact (ei_app (xs := ([] : List Int))).symm) | (rw [hz5]; simp [ei, eb, es, ec, c51])
  refine rs_st hR1_0 (ei_len.trans (Nat.mul_one _).symm) ?_
  refine ob_app (by decide) (by first | exact ei_one | ((repeat (refine List.forall_mem_cons.2 ⟨rfl, ?_⟩)); intro y hy; cases hy; done) | (intro y hy; simp [ei, eb, es, ec, c51] at hy; (first | (rcases hy with rfl | hy) | subst hy | skip); all_goals first | rfl | simp_all [Value.oneCell'])) H fun h6 H => ?_
  intro n7 zs9 hn8 hz10
  obtain rfl : n7 = ((([] : List Int) ++ a0.1) ++ a1).length := hn8.trans (by first | exact List.length_append.symm | (simp; done) | (simp; omega))
  obtain rfl : zs9 = ei .u8 ((([] : List Int) ++ a0.1) ++ a1) := by first | exact hz10.trans (ei_app (xs := (([] : List Int) ++ a0.1)) (ys := a1)).symm | (rw [hz10, ei_vw]; first | exact ei_app.symm | exact (ei_app (xs := (([] : List Int) ++ a0.1))).symm) | (rw [hz10]; simp [ei, eb, es, ec, c51])
  refine R.cut_famXG H 13 [2, 4] [] [(2, 0)] (fun (v19 : List Int) (g : (Option Addr × Nat)) => [(6, .v (.slice none 0 0))]) (fun (v19 : List Int) (g : (Option Addr × Nat)) => [(0, .cells 34 [.v (.slice ((g.1)) (v19.length) ((g.2))), bS a0.2])]) [(1, .cells 34 [.v (.slice none 0 0), .bb false])] 0 (fun q (v19 : List Int) (g : (Option Addr × Nat)) => Reads q g.1 (ei .u8 v19) ∧ v19.length ≤ g.2) (fun H => ?_)
  refine And.intro ?_ ?_
  · intro q21 A22 c23 hq24 hc25 hR26
    replace hR26 : Reads q21 A22 (ei .u8 ((([] : List Int) ++ a0.1) ++ a1)) := Eq.mp (congrArg (Reads q21 A22) (by first | exact rfl | (simp only [ei, eb, es, ec, c51, gmin, gmax, List.map_append, List.flatMap_append, List.nil_append, List.append_nil, List.append_assoc]; done))) hR26
    refine ⟨(((([] : List Int) ++ a0.1) ++ a1), (A22, c23)), ⟨H, hR26, hc25⟩, ⟨fun _ _ _ h => (hq24 _ _ _ h)⟩, ?_⟩
    repeat refine mo1_LiftD6 ?_
    first | exact trivial | exact rfl
  · rintro q18 hq17 ⟨v19, ⟨A27, c28⟩⟩ ⟨H, hR29, hc30⟩
    dsimp only at H hR29 hc30
    refine R.cut_famXG H 22 [2, 4] [] [] (fun (v182 : List Int × Bool × List (Int × ByteArray × Int × Bool × Bool × Bool)) (g : (Option Addr × Nat)) => [(6, .own 22)]) (fun (v182 : List Int × Bool × List (Int × ByteArray × Int × Bool × Bool × Bool)) (g : (Option Addr × Nat)) => [(0, .cells 34 [.v (.slice ((g.1)) (v182.1.length) ((g.2))), bS v182.2.1]), (22, .arr 51 6 (v182.2.2.length) (ec c51 (v182.2.2)))]) [(1, .cells 34 [.v (.slice none 0 0), .bb false])] 1 (fun q (v182 : List Int × Bool × List (Int × ByteArray × Int × Bool × Bool × Bool)) (g : (Option Addr × Nat)) => Reads q g.1 (ei .u8 v182.1) ∧ v182.1.length ≤ g.2) (fun H => ?_)
    refine And.intro ?_ ?_
    · refine R.loop_famXG (bind_st H) [2, 4] [(6, 0, 51, 6)] [(2, 0)] (fun _ => fun (s186 : List Int × Bool × List (Int × ByteArray × Int × Bool × Bool × Bool)) (g : (Option Addr × Nat)) => [(6, .own 14)]) (fun _ => fun (s186 : List Int × Bool × List (Int × ByteArray × Int × Bool × Bool × Bool)) (g : (Option Addr × Nat)) => [(0, .cells 34 [.v (.slice ((g.1)) (s186.1.length) ((g.2))), bS s186.2.1]), (14, .arr 51 6 (s186.2.2.length) (ec c51 (s186.2.2)))]) 1 (fun q (s186 : List Int × Bool × List (Int × ByteArray × Int × Bool × Bool × Bool)) (g : (Option Addr × Nat)) => Reads q g.1 (ei .u8 s186.1) ∧ s186.1.length ≤ g.2) (fun n327 H => ?_)
      refine ⟨(n327, _, (A27, c28)), ⟨H⟩, ⟨hR29, hc30⟩, ?_⟩
      repeat refine mo1_LiftD6 ?_
      rintro q185 hq184 ⟨m0, s186, ⟨A222, c223⟩⟩ H hrd
      obtain ⟨hR224, hc225⟩ := hrd
      obtain ⟨m187, hm0, H⟩ := IG_succ H
      dsimp only at hm0 hR224 hc225
      subst hm0
      try dsimp only at H
      refine if_st H (fun h261 H => ?_) (fun h261 H => ?_)
      · refine if_st H (fun h262 H => ?_) (fun h262 H => ?_)
        · obtain ⟨v263, hv264, H⟩ := call_st H
          refine ⟨(s186.1, v263), ⟨hv264⟩, ⟨trivial⟩, ?_⟩
          refine And.intro ⟨rfl, hc225, ei_len.trans ((show _ = _ from rfl).trans (Nat.mul_one _).symm), hR224⟩ ?_
          refine if_st H (fun h265 H => ?_) (fun h265 H => ?_)
          · replace H := some_st H
            dsimp only [stp, sm] at H
            intro q266 A267 c268 hq269 hc270 hR271
            replace hR271 : Reads q266 A267 (ec c51 s186.2.2) := Eq.mp (congrArg (Reads q266 A267) (by first | exact rfl | (simp only [ei, eb, es, ec, c51, gmin, gmax, List.map_append, List.flatMap_append, List.nil_append, List.append_nil, List.append_assoc]; done))) hR271
            have hfin := fin_st H
            subst hfin
            refine ⟨((A222, c223), (A267, c268)), ⟨⟨hc225, hc270⟩⟩, ⟨(Reads.mono hq269 hR224), hR271, trivial⟩, ?_⟩
            repeat refine mo1_LiftD6 ?_
            first | exact trivial | exact rfl
          · refine ob_sl hc225 H fun h272 H => ?_
            have hs273 := sl_ei hR224 rfl hc225 h272
            intro n274 hn275
            obtain rfl : n274 = ((s186.1.drop (0 : Int).toNat).take ((gmin v263 65536).toNat - (0 : Int).toNat)).length := hn275.trans hs273.2.1.symm
            obtain ⟨v276, hv277, H⟩ := call_st H
            refine ⟨(((s186.1.drop (0 : Int).toNat).take ((gmin v263 65536).toNat - (0 : Int).toNat)), v276), ⟨hv277⟩, ⟨trivial⟩, ?_⟩
            refine And.intro ⟨rfl, (Nat.le_trans (Nat.le_of_eq hs273.2.1) hs273.2.2), ei_len.trans ((show _ = _ from rfl).trans (Nat.mul_one _).symm), hs273.1⟩ ?_
            refine ob_app (by decide) (by first | exact (ec_one c51_one) | ((repeat (refine List.forall_mem_cons.2 ⟨rfl, ?_⟩)); intro y hy; cases hy; done) | (intro y hy; simp [ei, eb, es, ec, c51] at hy; (first | (rcases hy with rfl | hy) | subst hy | skip); all_goals first | rfl | simp_all [Value.oneCell'])) H fun h278 H => ?_
            intro n279 zs281 hn280 hz282
            obtain rfl : n279 = (s186.2.2 ++ [(16, v276, 0, false, false, false)]).length := hn280.trans (by first | exact List.length_append.symm | (simp; done) | (simp; omega))
            obtain rfl : zs281 = ec c51 (s186.2.2 ++ [(16, v276, 0, false, false, false)]) := by first | exact hz282.trans (ec_app (xs := s186.2.2) (ys := ([(16, v276, 0, false, false, false)]))).symm | (rw [hz282, ec_vw]; first | exact ec_app.symm | exact (ec_app (xs := s186.2.2)).symm) | (rw [hz282]; simp [ei, eb, es, ec, c51])
            refine ob_ck H fun h283 H => ?_
            refine ob_sl hc225 H fun h284 H => ?_
            have hs285 := sl_ei hR224 rfl hc225 h284
            intro n286 hn287
            obtain rfl : n286 = ((s186.1.drop (v263 + 6).toNat).take (((s186.1.length : Nat) : Int).toNat - (v263 + 6).toNat)).length := hn287.trans hs285.2.1.symm
            replace H := some_st H
            refine ⟨(m187, (((s186.1.drop (v263 + 6).toNat).take (((s186.1.length : Nat) : Int).toNat - (v263 + 6).toNat)), false, (s186.2.2 ++ [(16, v276, 0, false, false, false)])), (if c223 = (v263 + 6).toNat then A222 else A222.map (·.add ((v263 + 6).toNat)), c223 - (v263 + 6).toNat)), ⟨H, Nat.lt_succ_self _⟩, ⟨hs285.1, (Nat.le_trans (Nat.le_of_eq hs285.2.1) hs285.2.2)⟩, ⟨fun _ _ _ h => (hq184 _ _ _ h)⟩, ?_⟩
            repeat refine mo1_LiftD6 ?_
            first | exact trivial | exact rfl
        · obtain ⟨v288, hv289, H⟩ := call_st H
          refine ⟨(s186.1, v288), ⟨hv289⟩, ⟨trivial⟩, ?_⟩
          refine And.intro ⟨rfl, hc225, ei_len.trans ((show _ = _ from rfl).trans (Nat.mul_one _).symm), hR224⟩ ?_
          refine if_st H (fun h290 H => ?_) (fun h290 H => ?_)
          · replace H := some_st H
            dsimp only [stp, sm] at H
            intro q291 A292 c293 hq294 hc295 hR296
            replace hR296 : Reads q291 A292 (ec c51 s186.2.2) := Eq.mp (congrArg (Reads q291 A292) (by first | exact rfl | (simp only [ei, eb, es, ec, c51, gmin, gmax, List.map_append, List.flatMap_append, List.nil_append, List.append_nil, List.append_assoc]; done))) hR296
            have hfin := fin_st H
            subst hfin
            refine ⟨((A222, c223), (A292, c293)), ⟨⟨hc225, hc295⟩⟩, ⟨(Reads.mono hq294 hR224), hR296, trivial⟩, ?_⟩
            repeat refine mo1_LiftD6 ?_
            first | exact trivial | exact rfl
          · refine ob_sl hc225 H fun h297 H => ?_
            have hs298 := sl_ei hR224 rfl hc225 h297
            intro n299 hn300
            obtain rfl : n299 = ((s186.1.drop v288.1.toNat).take (((s186.1.length : Nat) : Int).toNat - v288.1.toNat)).length := hn300.trans hs298.2.1.symm
            refine if_st H (fun h301 H => ?_) (fun h301 H => ?_)
            · refine ob_app (by decide) (by first | exact (ec_one c51_one) | ((repeat (refine List.forall_mem_cons.2 ⟨rfl, ?_⟩)); intro y hy; cases hy; done) | (intro y hy; simp [ei, eb, es, ec, c51] at hy; (first | (rcases hy with rfl | hy) | subst hy | skip); all_goals first | rfl | simp_all [Value.oneCell'])) H fun h302 H => ?_
              intro n303 zs305 hn304 hz306
              obtain rfl : n303 = (s186.2.2 ++ [(v288.2.1, v288.2.2.1, v288.2.2.2.1, v288.2.2.2.2.1, v288.2.2.2.2.2.1, v288.2.2.2.2.2.2.1)]).length := hn304.trans (by first | exact List.length_append.symm | (simp; done) | (simp; omega))
              obtain rfl : zs305 = ec c51 (s186.2.2 ++ [(v288.2.1, v288.2.2.1, v288.2.2.2.1, v288.2.2.2.2.1, v288.2.2.2.2.2.1, v288.2.2.2.2.2.2.1)]) := by first | exact hz306.trans (ec_app (xs := s186.2.2) (ys := ([(v288.2.1, v288.2.2.1, v288.2.2.2.1, v288.2.2.2.2.1, v288.2.2.2.2.2.1, v288.2.2.2.2.2.2.1)]))).symm | (rw [hz306, ec_vw]; first | exact ec_app.symm | exact (ec_app (xs := s186.2.2)).symm) | (rw [hz306]; simp [ei, eb, es, ec, c51])
              replace H := some_st H
              refine ⟨(m187, (((s186.1.drop v288.1.toNat).take (((s186.1.length : Nat) : Int).toNat - v288.1.toNat)), v288.2.2.2.2.2.2.2.2, (s186.2.2 ++ [(v288.2.1, v288.2.2.1, v288.2.2.2.1, v288.2.2.2.2.1, v288.2.2.2.2.2.1, v288.2.2.2.2.2.2.1)])), (if c223 = v288.1.toNat then A222 else A222.map (·.add (v288.1.toNat)), c223 - v288.1.toNat)), ⟨H, Nat.lt_succ_self _⟩, ⟨hs298.1, (Nat.le_trans (Nat.le_of_eq hs298.2.1) hs298.2.2)⟩, ⟨fun _ _ _ h => (hq184 _ _ _ h)⟩, ?_⟩
              repeat refine mo1_LiftD6 ?_
              first | exact trivial | exact rfl
            · replace H := some_st H
              refine ⟨(m187, (((s186.1.drop v288.1.toNat).take (((s186.1.length : Nat) : Int).toNat - v288.1.toNat)), v288.2.2.2.2.2.2.2.2, s186.2.2), (if c223 = v288.1.toNat then A222 else A222.map (·.add (v288.1.toNat)), c223 - v288.1.toNat)), ⟨H, Nat.lt_succ_self _⟩, ⟨hs298.1, (Nat.le_trans (Nat.le_of_eq hs298.2.1) hs298.2.2)⟩, ⟨fun _ _ _ h => (hq184 _ _ _ h)⟩, ?_⟩
              repeat refine mo1_LiftD6 ?_
              first | exact trivial | exact rfl
      · replace H := some_st H
        dsimp only [stp, sm] at H
        refine ⟨((s186.1, s186.2.1, s186.2.2), (A222, c223)), ⟨H, hR224, hc225⟩, ⟨fun _ _ _ h => (hq184 _ _ _ h)⟩, ?_⟩
        repeat refine mo1_LiftD6 ?_
        first | exact trivial | exact rfl
    · rintro q181 hq180 ⟨v182, ⟨A328, c329⟩⟩ ⟨H, hR330, hc331⟩
      dsimp only at H hR330 hc331
      intro q332 A333 c334 hq335 hc336 hR337
      replace hR337 : Reads q332 A333 (ec c51 v182.2.2) := Eq.mp (congrArg (Reads q332 A333) (by first | exact rfl | (simp only [ei, eb, es, ec, c51, gmin, gmax, List.map_append, List.flatMap_append, List.nil_append, List.append_nil, List.append_assoc]; done))) hR337
      have hfin := fin_st H
      subst hfin
      refine ⟨((A328, c329), (A333, c334)), ⟨⟨hc331, hc336⟩⟩, ⟨(Reads.mono hq335 hR330), hR337, trivial⟩, ?_⟩
      repeat refine mo1_LiftD6 ?_
      first | exact trivial | exact rfl

/-- placard/placardref07.Tick -/
noncomputable def g14 (a0 : (List Int × Bool)) : Option ((List Int × Bool) × List (Int × ByteArray × Int × Bool × Bool × Bool)) :=
  if a0.2 = true then
    some ((a0.1, a0.2), ([] : List (Int × ByteArray × Int × Bool × Bool × Bool)))
  else
    (
      if ((a0.1.length : Nat) : Int) = 0 then
        some ((a0.1, a0.2), ([] : List (Int × ByteArray × Int × Bool × Bool × Bool)))
      else
        (
          ck (isBytes a0.1) <|
          if (strOf a0.1).data.toList = (lit [27]).data.toList then
            some ((([] : List Int), a0.2), [(5, (⟨#[]⟩ : ByteArray), 0, false, false, false)])
          else
            (
              if (strOf a0.1).data.toList = (lit [27, 91]).data.toList then
                some ((([] : List Int), a0.2), [(1, (lit [91]), 0, true, false, false)])
              else
                (
                  if (strOf a0.1).data.toList = (lit [27, 79]).data.toList then
                    some ((([] : List Int), a0.2), [(1, (lit [79]), 0, true, false, false)])
                  else
                    some ((([] : List Int), a0.2), ([] : List (Int × ByteArray × Int × Bool × Bool × Bool)))
                )
            )
        )
    )
noncomputable def k14 : Eng.CS := { f := 14, calm := false, more := 0, ι := (List Int × Bool) × ((List Int × Bool) × List (Int × ByteArray × Int × Bool × Bool × Bool)) × ((Option Addr × Nat)), ok := fun i => g14 i.1 = some i.2.1 ∧ i.1.1.length ≤ i.2.2.2, rds := fun i => [(i.2.2.1, ei .u8 i.1.1)], args := fun i => [.w (.agg [.v (.slice i.2.2.1 i.1.1.length i.2.2.2), bS i.1.2])], res := fun _ => .bad, rn := [], gr := true, γ := (Option Addr × Nat) × (Option Addr × Nat), resG := fun i g => .tup [.agg [.v (.slice g.1.1 i.2.1.1.1.length g.1.2), bS i.2.1.1.2], .v (.slice g.2.1 i.2.1.2.length g.2.2)], LG := fun i _ => [], okG := fun i g => i.2.1.1.1.length ≤ g.1.2 ∧ i.2.1.2.length ≤ g.2.2, rdsG := fun i g => [(g.1.1, ei .u8 i.2.1.1.1), (g.2.1, ec c51 i.2.1.2)], fzr := [(0, 0), (1, 0)] }
set_option maxRecDepth 8000 in
set_option maxHeartbeats 4000000 in
theorem k14_ok : CSOk Tryd.prog k14 := by
  refine R.cspecG Tryd.func14 nm14 rfl rfl (fun _ => rfl) ?_
  rintro ⟨a0, r, ⟨A0_0, cp0_0⟩⟩ ⟨hok, hc0_0⟩ q ⟨hR0_0, _⟩ args hargs
  dsimp only at hR0_0 hc0_0
  dsimp only [k14] at hargs ⊢
  match args, hargs with
  | [_], hargs =>
  obtain ⟨rfl, _⟩ := hargs
  refine ⟨envC [] false [], 6, envC_ok (css_nil), ?_⟩
  have H : Gives (g14 a0) (fun a => a = r) := ⟨r, hok, rfl⟩
  unfold g14 at H
  clear hok
  refine if_st H (fun h341 H => ?_) (fun h341 H => ?_)
  · have hfin := fin_st H
    subst hfin
    refine ⟨((A0_0, cp0_0), (none, 0)), ⟨⟨hc0_0, Nat.le_refl _⟩⟩, ⟨hR0_0, Reads.nil, trivial⟩, ?_⟩
    repeat refine mo1_LiftD6 ?_
    first | exact trivial | exact rfl
  · refine if_st H (fun h342 H => ?_) (fun h342 H => ?_)
    · have hfin := fin_st H
      subst hfin
      refine ⟨((A0_0, cp0_0), (none, 0)), ⟨⟨hc0_0, Nat.le_refl _⟩⟩, ⟨hR0_0, Reads.nil, trivial⟩, ?_⟩
      repeat refine mo1_LiftD6 ?_
      first | exact trivial | exact rfl
    · refine rs_st hR0_0 (by rw [ei_len, Nat.mul_one]) ?_
      refine ob_str (l := a0.1) H fun h347 H => ?_
      refine if_st H (fun h348 H => ?_) (fun h348 H => ?_)
      · intro q349 A350 c351 hq352 hc353 hR354
        replace hR354 : Reads q349 A350 (ec c51 ([(5, (⟨#[]⟩ : ByteArray), 0, false, false, false)])) := Eq.mp (congrArg (Reads q349 A350) (by first | exact rfl | (simp only [ei, eb, es, ec, c51, gmin, gmax, List.map_append, List.flatMap_append, List.nil_append, List.append_nil, List.append_assoc]; done))) hR354
        have hfin := fin_st H
        subst hfin
        refine ⟨((none, 0), (A350, c351)), ⟨⟨Nat.le_refl _, (Nat.le_trans (Nat.le_of_eq (show _ = _ from (show ([(5, (⟨#[]⟩ : ByteArray), 0, false, false, false)]).length = 1 from by first | rfl | (simp; done) | (simp; omega)))) hc353)⟩⟩, ⟨Reads.nil, hR354, trivial⟩, ?_⟩
        repeat (first | refine And.intro (Ob.mk (by first | exact congrArg (fun m => Value.slice _ m _) (show _ = _ from (show ([(5, (⟨#[]⟩ : ByteArray), 0, false, false, false)]).length = 1 from by first | rfl | (simp; done) | (simp; omega))))) ?_ | refine mo1_LiftD6 ?_)
        first | exact trivial | exact rfl
      · refine if_st H (fun h355 H => ?_) (fun h355 H => ?_)
        · intro q356 A357 c358 hq359 hc360 hR361
          replace hR361 : Reads q356 A357 (ec c51 ([(1, (lit [91]), 0, true, false, false)])) := Eq.mp (congrArg (Reads q356 A357) (by first | exact rfl | (simp only [ei, eb, es, ec, c51, gmin, gmax, List.map_append, List.flatMap_append, List.nil_append, List.append_nil, List.append_assoc]; done))) hR361
          have hfin := fin_st H
          subst hfin
          refine ⟨((none, 0), (A357, c358)), ⟨⟨Nat.le_refl _, (Nat.le_trans (Nat.le_of_eq (show _ = _ from (show ([(1, (lit [91]), 0, true, false, false)]).length = 1 from by first | rfl | (simp; done) | (simp; omega)))) hc360)⟩⟩, ⟨Reads.nil, hR361, trivial⟩, ?_⟩
          repeat (first | refine And.intro (Ob.mk (by first | exact congrArg (fun m => Value.slice _ m _) (show _ = _ from (show ([(1, (lit [91]), 0, true, false, false)]).length = 1 from by first | rfl | (simp; done) | (simp; omega))))) ?_ | refine mo1_LiftD6 ?_)
          first | exact trivial | exact rfl
        · refine if_st H (fun h362 H => ?_) (fun h362 H => ?_)
          · intro q363 A364 c365 hq366 hc367 hR368
            replace hR368 : Reads q363 A364 (ec c51 ([(1, (lit [79]), 0, true, false, false)])) := Eq.mp (congrArg (Reads q363 A364) (by first | exact rfl | (simp only [ei, eb, es, ec, c51, gmin, gmax, List.map_append, List.flatMap_append, List.nil_append, List.append_nil, List.append_assoc]; done))) hR368
            have hfin := fin_st H
            subst hfin
            refine ⟨((none, 0), (A364, c365)), ⟨⟨Nat.le_refl _, (Nat.le_trans (Nat.le_of_eq (show _ = _ from (show ([(1, (lit [79]), 0, true, false, false)]).length = 1 from by first | rfl | (simp; done) | (simp; omega)))) hc367)⟩⟩, ⟨Reads.nil, hR368, trivial⟩, ?_⟩
            repeat (first | refine And.intro (Ob.mk (by first | exact congrArg (fun m => Value.slice _ m _) (show _ = _ from (show ([(1, (lit [79]), 0, true, false, false)]).length = 1 from by first | rfl | (simp; done) | (simp; omega))))) ?_ | refine mo1_LiftD6 ?_)
            first | exact trivial | exact rfl
          · have hfin := fin_st H
            subst hfin
            refine ⟨((none, 0), (none, 0)), ⟨⟨Nat.le_refl _, Nat.le_refl _⟩⟩, ⟨Reads.nil, Reads.nil, trivial⟩, ?_⟩
            repeat refine mo1_LiftD6 ?_
            first | exact trivial | exact rfl

/-- placard/placardref07.One -/
noncomputable def g16 (a0 : (List Int × Bool)) (a1 : List Int) : Option ((List Int × Bool) × List (Int × ByteArray × Int × Bool × Bool × Bool) × Int) :=
  jn (α := _) (β := List Int × Bool) (fun k566 =>
      (loopO (σ := List Int × Bool × Int) (ρ := (List Int × Bool × List Int × Bool × List (Int × ByteArray × Int × Bool × Bool × Bool) × Int) ⊕ (List Int × Bool)) (fun s569 =>
          if s569.2.2 < ((a1.length : Nat) : Int) then
            (
              ck (inR .i64 (s569.2.2 + 1)) <|
              ck (0 ≤ s569.2.2 ∧ s569.2.2 ≤ s569.2.2 + 1 ∧ s569.2.2 + 1 ≤ ((a1.length : Nat) : Int)) <|
              (g13 (s569.1, s569.2.1) ((a1.drop s569.2.2.toNat).take ((s569.2.2 + 1).toNat - s569.2.2.toNat))).bind fun v666 =>
              if 0 < ((v666.2.length : Nat) : Int) then
                (
                  ck (inR .i64 (s569.2.2 + 1)) <|
                  some (.out (.inl ((v666.1.1, v666.1.2, v666.1.1, v666.1.2, v666.2, s569.2.2 + 1))))
                )
              else
                (
                  ck (inR .i64 (s569.2.2 + 1)) <|
                  some (.go (v666.1.1, v666.1.2, s569.2.2 + 1))
                )
            )
          else
            some (.out (.inr ((s569.1, s569.2.1))))
        ) (a0.1, a0.2, 0)).bind fun o659 =>
      sm o659 (fun o702 =>
          some ((o702.2.2.1, o702.2.2.2.1), o702.2.2.2.2.1, o702.2.2.2.2.2)
        ) (fun o715 =>
          k566 (o715.1, o715.2)
        )
  ) (fun v565 =>
    some ((v565.1, v565.2), ([] : List (Int × ByteArray × Int × Bool × Bool × Bool)), ((a1.length : Nat) : Int))
  )
noncomputable def k16 : Eng.CS := { f := 16, calm := false, more := 0, ι := (List Int × Bool) × (List Int) × ((List Int × Bool) × List (Int × ByteArray × Int × Bool × Bool × Bool) × Int) × ((Option Addr × Nat) × (Option Addr × Nat)), ok := fun i => g16 i.1 i.2.1 = some i.2.2.1 ∧ i.1.1.length ≤ i.2.2.2.1.2 ∧ i.2.1.length ≤ i.2.2.2.2.2, rds := fun i => [(i.2.2.2.1.1, ei .u8 i.1.1), (i.2.2.2.2.1, ei .u8 i.2.1)], args := fun i => [.w (.agg [.v (.slice i.2.2.2.1.1 i.1.1.length i.2.2.2.1.2), bS i.1.2]), .w (.v (.slice i.2.2.2.2.1 i.2.1.length i.2.2.2.2.2))], res := fun _ => .bad, rn := [], gr := true, γ := (Option Addr × Nat) × (Option Addr × Nat), resG := fun i g => .tup [.agg [.v (.slice g.1.1 i.2.2.1.1.1.length g.1.2), bS i.2.2.1.1.2], .v (.slice g.2.1 i.2.2.1.2.1.length g.2.2), .v (.int .i64 (i.2.2.1.2.2))], LG := fun i _ => [], okG := fun i g => i.2.2.1.1.1.length ≤ g.1.2 ∧ i.2.2.1.2.1.length ≤ g.2.2, rdsG := fun i g => [(g.1.1, ei .u8 i.2.2.1.1.1), (g.2.1, ec c51 i.2.2.1.2.1)], fzr := [(0, 0), (1, 0)] }
set_option maxRecDepth 8000 in
set_option maxHeartbeats 4000000 in
theorem k16_ok : CSOk Tryd.prog k16 := by
  refine R.cspecG Tryd.func16 nm16 rfl rfl (fun _ => rfl) ?_
  rintro ⟨a0, a1, r, ⟨⟨A0_0, cp0_0⟩, ⟨A1_0, cp1_0⟩⟩⟩ ⟨hok, hc0_0, hc1_0⟩ q ⟨hR0_0, hR1_0, _⟩ args hargs
  dsimp only at hR0_0 hc0_0 hR1_0 hc1_0
  dsimp only [k16] at hargs ⊢
  match args, hargs with
  | [_, _], hargs =>
  obtain ⟨rfl, rfl, _⟩ := hargs
  refine ⟨envC [k13] false [(16, 8)], 6, envC_ok (css_cons ⟨fun h => (by cases h), fun _ => k13_ok⟩ (css_nil)), ?_⟩
  have H : Gives (g16 a0 a1) (fun a => a = r) := ⟨r, hok, rfl⟩
  unfold g16 at H
  clear hok
  refine R.cut_famXG H 11 [1, 2, 4] [] [] (fun (v565 : List Int × Bool) (g : (Option Addr × Nat)) => []) (fun (v565 : List Int × Bool) (g : (Option Addr × Nat)) => [(0, .cells 34 [.v (.slice ((g.1)) (v565.1.length) ((g.2))), bS v565.2])]) [(1, .cells 34 [.v (.slice none 0 0), .bb false])] 0 (fun q (v565 : List Int × Bool) (g : (Option Addr × Nat)) => Reads q g.1 (ei .u8 v565.1) ∧ v565.1.length ≤ g.2) (fun H => ?_)
  refine And.intro ?_ ?_
  · refine R.loop_famXG (bind_st H) [1, 2, 4] [] [] (fun _ => fun (s569 : List Int × Bool × Int) (g : (Option Addr × Nat)) => [(7, .v (.int .i64 (s569.2.2)))]) (fun _ => fun (s569 : List Int × Bool × Int) (g : (Option Addr × Nat)) => [(0, .cells 34 [.v (.slice ((g.1)) (s569.1.length) ((g.2))), bS s569.2.1])]) 0 (fun q (s569 : List Int × Bool × Int) (g : (Option Addr × Nat)) => Reads q g.1 (ei .u8 s569.1) ∧ s569.1.length ≤ g.2) (fun n720 H => ?_)
    refine ⟨(n720, _, (A0_0, cp0_0)), ⟨H⟩, ⟨hR0_0, hc0_0⟩, ?_⟩
    repeat refine mo1_LiftD6 ?_
    rintro q568 hq567 ⟨m0, s569, ⟨A613, c614⟩⟩ H hrd
    obtain ⟨hR615, hc616⟩ := hrd
    obtain ⟨m570, hm0, H⟩ := IG_succ H
    dsimp only at hm0 hR615 hc616
    subst hm0
    try dsimp only at H
    refine if_st H (fun h660 H => ?_) (fun h660 H => ?_)
    · refine And.intro ⟨by kernel_rfl⟩ ?_
      refine ⟨(Pn.calm 0 (Pn.calm 1 (Pn.calm 2 (Pn.calm 3 (Pn.calm 4 (Pn.calm 5 (Pn.eff 6 [0, 5, 1, 2, 4, 3] (Pn.calm 7 (Pn.calm 8 (Pn.calm 9 (Pn.eff 10 [] (Pn.eff 11 [10, 8, 6, 0, 1, 2, 3, 4, 5, 7] (Pn.calm 12 Pn.done) Pn.no) Pn.no)))) (Pn.eff 10 [] (Pn.eff 6 [0, 5, 1, 2, 4, 3] (Pn.calm 7 (Pn.calm 8 (Pn.calm 9 (Pn.eff 11 [10, 8, 6, 0, 1, 2, 3, 4, 5, 7] (Pn.calm 12 Pn.done) Pn.no)))) Pn.no) Pn.no)))))))), ⟨by kernel_rfl⟩, ?_⟩
      refine ob_ck H fun h661 H => ?_
      refine ob_sl hc1_0 H fun h662 H => ?_
      have hs663 := sl_ei (Reads.mono hq567 hR1_0) rfl hc1_0 h662
      intro n664 hn665
      obtain rfl : n664 = ((a1.drop s569.2.2.toNat).take ((s569.2.2 + 1).toNat - s569.2.2.toNat)).length := hn665.trans hs663.2.1.symm
      refine And.intro ?_ (And.intro ?_ trivial)
      · obtain ⟨v666, hv667, H⟩ := call_st H
        refine ⟨((s569.1, s569.2.1), ((a1.drop s569.2.2.toNat).take ((s569.2.2 + 1).toNat - s569.2.2.toNat)), v666, ((A613, c614), (if cp1_0 = s569.2.2.toNat then A1_0 else A1_0.map (·.add (s569.2.2.toNat)), cp1_0 - s569.2.2.toNat))), ⟨hv667, hc616, (Nat.le_trans (Nat.le_of_eq hs663.2.1) hs663.2.2)⟩, ⟨hR615, hs663.1, trivial⟩, ?_⟩
        refine And.intro ⟨rfl⟩ ?_
        refine mo1_LiftD6 ?_
        refine And.intro ⟨rfl⟩ ?_
        intro q668 g669 hq670 hok671 hrd672
        obtain ⟨⟨A673, c674⟩, ⟨A677, c678⟩⟩ := g669
        obtain ⟨hc675, hc679⟩ := hok671
        obtain ⟨hR676, hR680, _⟩ := hrd672
        dsimp only at hc675 hR676 hc679 hR680
        refine And.intro ⟨fun _ _ _ h => (hq670 _ _ _ h)⟩ ?_
        refine And.intro ?_ trivial
        refine And.intro ⟨fun _ _ _ h => h⟩ ?_
        refine And.intro ?_ trivial
        refine And.intro ⟨fun _ _ _ h => h⟩ ?_
        refine if_st H (fun h681 H => ?_) (fun h681 H => ?_)
        · refine ob_ck H fun h682 H => ?_
          replace H := some_st H
          dsimp only [stp, sm] at H
          have hfin := fin_st H
          subst hfin
          refine ⟨((A673, c674), (A677, c678)), ⟨⟨hc675, hc679⟩⟩, ⟨hR676, hR680, trivial⟩, ?_⟩
          repeat refine mo1_LiftD6 ?_
          first | exact trivial | exact rfl
        · refine ob_ck H fun h683 H => ?_
          replace H := some_st H
          refine ⟨(m570, (v666.1.1, v666.1.2, s569.2.2 + 1), (A673, c674)), ⟨H, Nat.lt_succ_self _⟩, ⟨hR676, hc675⟩, ⟨fun _ _ _ h => (hq670 _ _ _ (hq567 _ _ _ h))⟩, ?_⟩
          repeat refine mo1_LiftD6 ?_
          first | exact trivial | exact rfl
      · refine And.intro ⟨fun _ _ _ h => h⟩ ?_
        refine And.intro ?_ trivial
        obtain ⟨v684, hv685, H⟩ := call_st H
        refine ⟨((s569.1, s569.2.1), ((a1.drop s569.2.2.toNat).take ((s569.2.2 + 1).toNat - s569.2.2.toNat)), v684, ((A613, c614), (if cp1_0 = s569.2.2.toNat then A1_0 else A1_0.map (·.add (s569.2.2.toNat)), cp1_0 - s569.2.2.toNat))), ⟨hv685, hc616, (Nat.le_trans (Nat.le_of_eq hs663.2.1) hs663.2.2)⟩, ⟨hR615, hs663.1, trivial⟩, ?_⟩
        refine And.intro ⟨rfl⟩ ?_
        refine mo1_LiftD6 ?_
        refine And.intro ⟨rfl⟩ ?_
        intro q686 g687 hq688 hok689 hrd690
        obtain ⟨⟨A691, c692⟩, ⟨A695, c696⟩⟩ := g687
        obtain ⟨hc693, hc697⟩ := hok689
        obtain ⟨hR694, hR698, _⟩ := hrd690
        dsimp only at hc693 hR694 hc697 hR698
        refine And.intro ⟨fun _ _ _ h => (hq688 _ _ _ h)⟩ ?_
        refine And.intro ?_ trivial
        refine And.intro ⟨fun _ _ _ h => h⟩ ?_
        refine if_st H (fun h699 H => ?_) (fun h699 H => ?_)
        · refine ob_ck H fun h700 H => ?_
          replace H := some_st H
          dsimp only [stp, sm] at H
          have hfin := fin_st H
          subst hfin
          refine ⟨((A691, c692), (A695, c696)), ⟨⟨hc693, hc697⟩⟩, ⟨hR694, hR698, trivial⟩, ?_⟩
          repeat refine mo1_LiftD6 ?_
          first | exact trivial | exact rfl
        · refine ob_ck H fun h701 H => ?_
          replace H := some_st H
          refine ⟨(m570, (v684.1.1, v684.1.2, s569.2.2 + 1), (A691, c692)), ⟨H, Nat.lt_succ_self _⟩, ⟨hR694, hc693⟩, ⟨fun _ _ _ h => (hq688 _ _ _ (hq567 _ _ _ h))⟩, ?_⟩
          repeat refine mo1_LiftD6 ?_
          first | exact trivial | exact rfl
    · replace H := some_st H
      dsimp only [stp, sm] at H
      refine ⟨((s569.1, s569.2.1), (A613, c614)), ⟨H, hR615, hc616⟩, ⟨fun _ _ _ h => (hq567 _ _ _ h)⟩, ?_⟩
      repeat refine mo1_LiftD6 ?_
      first | exact trivial | exact rfl
  · rintro q564 hq563 ⟨v565, ⟨A721, c722⟩⟩ ⟨H, hR723, hc724⟩
    dsimp only at H hR723 hc724
    have hfin := fin_st H
    subst hfin
    refine ⟨((A721, c722), (none, 0)), ⟨⟨hc724, Nat.le_refl _⟩⟩, ⟨hR723, Reads.nil, trivial⟩, ?_⟩
    repeat refine mo1_LiftD6 ?_
    first | exact trivial | exact rfl

def c40 (p : (Int × ((Option Addr × Nat) × List Int))) : List Value := [.int .u8 p.1, .slice p.2.1.1 p.2.2.length p.2.1.2]
theorem c40_len : ∀ a, (c40 a).length = 2 := fun _ => rfl
theorem c40_one : ∀ a, ∀ y ∈ c40 a, y.oneCell' = true := by intro a y hy; simp only [c40, List.mem_cons, List.not_mem_nil, or_false] at hy; rcases hy with rfl | rfl <;> rfl
def P40 (q : PH) (p : (Int × ((Option Addr × Nat) × List Int))) : Prop := Reads q p.2.1.1 (ei .u8 p.2.2) ∧ p.2.2.length ≤ p.2.1.2
def R40 (p : (Int × ((Option Addr × Nat) × List Int))) : List (Option Addr × List Value) := [(p.2.1.1, ei .u8 p.2.2)]
def cap40 (p : (Int × ((Option Addr × Nat) × List Int))) : Prop := p.2.2.length ≤ p.2.1.2
theorem P40.mono {q q' : PH} (h : q.le q') {p : (Int × ((Option Addr × Nat) × List Int))} (hp : P40 q p) : P40 q' p := ⟨Reads.mono h hp.1, hp.2⟩
theorem P40.of {q : PH} {l : List ((Int × ((Option Addr × Nat) × List Int)))} (h : Eng.RdsOk q (l.flatMap R40)) (hc : ∀ p ∈ l, cap40 p) : ∀ p ∈ l, P40 q p := fun p hp => ⟨rds_mem (x := (p.2.1.1, ei .u8 p.2.2)) h (List.mem_flatMap.2 ⟨p, hp, by simp [R40]⟩), (hc p hp)⟩
theorem mo2_LiftD6 {p q : Prop} (k : q) (h : p := by first | exact rfl | exact Iff.rfl | exact ⟨rfl, rfl⟩ | exact decide_eq_true_iff | (constructor <;> first | exact rfl | (simp only [ei, eb, es, ec, c40, c51, gmin, gmax, List.map_append, List.flatMap_append, List.nil_append, List.append_nil, List.append_assoc]; done) | omega | (simp only [List.nil_append, List.length_append, List.length_cons, List.length_nil]; omega) | (simp [ei, eb, es, ec, c40, c51, gmin, gmax]; done)) | exact rfl | (simp only [ei, eb, es, ec, c40, c51, gmin, gmax, List.map_append, List.flatMap_append, List.nil_append, List.append_nil, List.append_assoc]; done) | omega | (simp only [List.nil_append, List.length_append, List.length_cons, List.length_nil]; omega) | (simp [ei, eb, es, ec, c40, c51, gmin, gmax]; done) | simp [ei, eb, es, ec, c40, c51, gmin, gmax]) : Ob p ∧ q := ⟨⟨h⟩, k⟩
theorem mf2_LiftD6 {p q : Prop} (k : q) (h : p := by first | (rw [← hfin] <;> first | exact rfl | exact Iff.rfl | exact ⟨rfl, rfl⟩ | exact decide_eq_true_iff | (constructor <;> first | exact rfl | (simp only [ei, eb, es, ec, c40, c51, gmin, gmax, List.map_append, List.flatMap_append, List.nil_append, List.append_nil, List.append_assoc]; done) | omega | (simp only [List.nil_append, List.length_append, List.length_cons, List.length_nil]; omega) | (simp [ei, eb, es, ec, c40, c51, gmin, gmax]; done)) | exact rfl | (simp only [ei, eb, es, ec, c40, c51, gmin, gmax, List.map_append, List.flatMap_append, List.nil_append, List.append_nil, List.append_assoc]; done) | omega | (simp only [List.nil_append, List.length_append, List.length_cons, List.length_nil]; omega) | (simp [ei, eb, es, ec, c40, c51, gmin, gmax]; done) | simp [ei, eb, es, ec, c40, c51, gmin, gmax]) | first | exact rfl | exact Iff.rfl | exact ⟨rfl, rfl⟩ | exact decide_eq_true_iff | (constructor <;> first | exact rfl | (simp only [ei, eb, es, ec, c40, c51, gmin, gmax, List.map_append, List.flatMap_append, List.nil_append, List.append_nil, List.append_assoc]; done) | omega | (simp only [List.nil_append, List.length_append, List.length_cons, List.length_nil]; omega) | (simp [ei, eb, es, ec, c40, c51, gmin, gmax]; done)) | exact rfl | (simp only [ei, eb, es, ec, c40, c51, gmin, gmax, List.map_append, List.flatMap_append, List.nil_append, List.append_nil, List.append_assoc]; done) | omega | (simp only [List.nil_append, List.length_append, List.length_cons, List.length_nil]; omega) | (simp [ei, eb, es, ec, c40, c51, gmin, gmax]; done) | simp [ei, eb, es, ec, c40, c51, gmin, gmax]) : Ob p ∧ q := ⟨⟨h⟩, k⟩
/-- placard/placardlaw07.KeyinRuns -/
noncomputable def g5 (a0 : List (Int × ((Option Addr × Nat) × List Int))) : Option (Bool) :=
  (g12).bind fun v730 =>
  if ¬ (v730 = true) then
    some false
  else
    (
      jn (α := _) (β := List Int × Bool) (fun k1654 =>
          (loopO (σ := List Int × Bool × List Int × Bool × List Int × Int × Bool × Int) (ρ := (List Int × Bool) ⊕ (List Int × Bool)) (fun s1657 =>
              if s1657.2.2.2.2.2.2.2 < ((a0.length : Nat) : Int) then
                (
                  if s1657.2.2.2.2.2.2.2 < 40 then
                    (
                      ck (0 ≤ s1657.2.2.2.2.2.2.2 ∧ s1657.2.2.2.2.2.2.2 < ((a0.length : Nat) : Int)) <|
                      ck (0 ≤ (0 : Int) ∧ (0 : Int) ≤ gmin (((a0.getD s1657.2.2.2.2.2.2.2.toNat default).2.2.length : Nat) : Int) 300 ∧ gmin (((a0.getD s1657.2.2.2.2.2.2.2.toNat default).2.2.length : Nat) : Int) 300 ≤ (((a0.getD s1657.2.2.2.2.2.2.2.toNat default).2.2.length : Nat) : Int)) <|
                      jn (α := _) (β := List Int × Bool × List Int × Bool × List Int × Int × Bool) (fun k2147 =>
                          ck (0 ≤ s1657.2.2.2.2.2.2.2 ∧ s1657.2.2.2.2.2.2.2 < ((a0.length : Nat) : Int)) <|
                          jn (α := _) (β := Bool) (fun k2151 =>
                              if (Int.tmod ((a0.getD s1657.2.2.2.2.2.2.2.toNat default).1) 5) = 0 then
                                k2151 (decide ((Int.tmod ((a0.getD s1657.2.2.2.2.2.2.2.toNat default).1) 5) = 0))
                              else
                                k2151 (decide ((Int.tmod ((a0.getD s1657.2.2.2.2.2.2.2.toNat default).1) 5) = 1))
                          ) (fun v2150 =>
                            if v2150 = true then
                              (
                                (g13 (s1657.1, s1657.2.1) ((((a0.getD s1657.2.2.2.2.2.2.2.toNat default).2.2).drop (0 : Int).toNat).take ((gmin (((a0.getD s1657.2.2.2.2.2.2.2.toNat default).2.2.length : Nat) : Int) 300).toNat - (0 : Int).toNat))).bind fun v2154 =>
                                (g9 (s1657.2.2.1, s1657.2.2.2.1, s1657.2.2.2.2.1, s1657.2.2.2.2.2.1, s1657.2.2.2.2.2.2.1) ((((a0.getD s1657.2.2.2.2.2.2.2.toNat default).2.2).drop (0 : Int).toNat).take ((gmin (((a0.getD s1657.2.2.2.2.2.2.2.toNat default).2.2.length : Nat) : Int) 300).toNat - (0 : Int).toNat))).bind fun v2169 =>
                                (g10 v2169.1 v2154.2).bind fun v2171 =>
                                if ¬ (v2171 = true) then
                                  some (.out (.inl ((v2154.1.1, v2154.1.2))))
                                else
                                  k2147 (v2154.1.1, v2154.1.2, v2169.2.1, v2169.2.2.1, v2169.2.2.2.1, v2169.2.2.2.2.1, v2169.2.2.2.2.2)
                              )
                            else
                              (
                                if (Int.tmod ((a0.getD s1657.2.2.2.2.2.2.2.toNat default).1) 5) = 2 then
                                  (
                                    (g14 (s1657.1, s1657.2.1)).bind fun v2175 =>
                                    (g15 (s1657.2.2.1, s1657.2.2.2.1, s1657.2.2.2.2.1, s1657.2.2.2.2.2.1, s1657.2.2.2.2.2.2.1)).bind fun v2190 =>
                                    (g10 v2190.1 v2175.2).bind fun v2192 =>
                                    if ¬ (v2192 = true) then
                                      some (.out (.inl ((v2175.1.1, v2175.1.2))))
                                    else
                                      k2147 (v2175.1.1, v2175.1.2, v2190.2.1, v2190.2.2.1, v2190.2.2.2.1, v2190.2.2.2.2.1, v2190.2.2.2.2.2)
                                  )
                                else
                                  (
                                    if (Int.tmod ((a0.getD s1657.2.2.2.2.2.2.2.toNat default).1) 5) = 3 then
                                      (
                                        (g16 (s1657.1, s1657.2.1) ((((a0.getD s1657.2.2.2.2.2.2.2.toNat default).2.2).drop (0 : Int).toNat).take ((gmin (((a0.getD s1657.2.2.2.2.2.2.2.toNat default).2.2.length : Nat) : Int) 300).toNat - (0 : Int).toNat))).bind fun v2196 =>
                                        (g17 (s1657.2.2.1, s1657.2.2.2.1, s1657.2.2.2.2.1, s1657.2.2.2.2.2.1, s1657.2.2.2.2.2.2.1) ((((a0.getD s1657.2.2.2.2.2.2.2.toNat default).2.2).drop (0 : Int).toNat).take ((gmin (((a0.getD s1657.2.2.2.2.2.2.2.toNat default).2.2.length : Nat) : Int) 300).toNat - (0 : Int).toNat))).bind fun v2211 =>
                                        (g10 v2211.1 v2196.2.1).bind fun v2213 =>
                                        if ¬ (v2213 = true) then
                                          some (.out (.inl ((v2196.1.1, v2196.1.2))))
                                        else
                                          (
                                            if ¬ v2211.2.1 = v2196.2.2 then
                                              some (.out (.inl ((v2196.1.1, v2196.1.2))))
                                            else
                                              k2147 (v2196.1.1, v2196.1.2, v2211.2.2.1, v2211.2.2.2.1, v2211.2.2.2.2.1, v2211.2.2.2.2.2.1, v2211.2.2.2.2.2.2)
                                          )
                                      )
                                    else
                                      (
                                        if ¬ (s1657.2.2.2.2.2.2.1 = true) then
                                          some (.out (.inl ((s1657.1, s1657.2.1))))
                                        else
                                          (
                                            ck ((0 + s1657.2.2.1.length) * 1 ≤ 140737488355328) <|
                                            ck ((0 + s1657.2.2.2.2.1.length) * 1 ≤ 140737488355328) <|
                                            k2147 (s1657.1, s1657.2.1, (([] : List Int) ++ s1657.2.2.1), s1657.2.2.2.1, (([] : List Int) ++ s1657.2.2.2.2.1), s1657.2.2.2.2.2.1, s1657.2.2.2.2.2.2.1)
                                          )
                                      )
                                  )
                              )
                          )
                      ) (fun v2146 =>
                        (g11 (v2146.2.2.1, v2146.2.2.2.1, v2146.2.2.2.2.1, v2146.2.2.2.2.2.1, v2146.2.2.2.2.2.2)).bind fun v2232 =>
                        if v2146.2.1 = true then
                          (
                            if ¬ v2232 = (gmin ((v2146.1.length : Nat) : Int) 65541) then
                              some (.out (.inl ((v2146.1, v2146.2.1))))
                            else
                              (
                                (g20 (v2146.2.2.1, v2146.2.2.2.1, v2146.2.2.2.2.1, v2146.2.2.2.2.2.1, v2146.2.2.2.2.2.2)).bind fun v2236 =>
                                if ¬ ((v2236 = true) ↔ (v2146.2.1 = true)) then
                                  some (.out (.inl ((v2146.1, v2146.2.1))))
                                else
                                  (
                                    if ¬ (v2146.2.1 = true) then
                                      (
                                        (g11 (v2146.2.2.1, v2146.2.2.2.1, v2146.2.2.2.2.1, v2146.2.2.2.2.2.1, v2146.2.2.2.2.2.2)).bind fun v2240 =>
                                        if 32 < v2240 then
                                          some (.out (.inl ((v2146.1, v2146.2.1))))
                                        else
                                          (
                                            ck (inR .i64 (s1657.2.2.2.2.2.2.2 + 1)) <|
                                            some (.go (v2146.1, v2146.2.1, v2146.2.2.1, v2146.2.2.2.1, v2146.2.2.2.2.1, v2146.2.2.2.2.2.1, v2146.2.2.2.2.2.2, s1657.2.2.2.2.2.2.2 + 1))
                                          )
                                      )
                                    else
                                      (
                                        ck (inR .i64 (s1657.2.2.2.2.2.2.2 + 1)) <|
                                        some (.go (v2146.1, v2146.2.1, v2146.2.2.1, v2146.2.2.2.1, v2146.2.2.2.2.1, v2146.2.2.2.2.2.1, v2146.2.2.2.2.2.2, s1657.2.2.2.2.2.2.2 + 1))
                                      )
                                  )
                              )
                          )
                        else
                          (
                            if ¬ v2232 = ((v2146.1.length : Nat) : Int) then
                              some (.out (.inl ((v2146.1, v2146.2.1))))
                            else
                              (
                                (g20 (v2146.2.2.1, v2146.2.2.2.1, v2146.2.2.2.2.1, v2146.2.2.2.2.2.1, v2146.2.2.2.2.2.2)).bind fun v2246 =>
                                if ¬ ((v2246 = true) ↔ (v2146.2.1 = true)) then
                                  some (.out (.inl ((v2146.1, v2146.2.1))))
                                else
                                  (
                                    if ¬ (v2146.2.1 = true) then
                                      (
                                        (g11 (v2146.2.2.1, v2146.2.2.2.1, v2146.2.2.2.2.1, v2146.2.2.2.2.2.1, v2146.2.2.2.2.2.2)).bind fun v2250 =>
                                        if 32 < v2250 then
                                          some (.out (.inl ((v2146.1, v2146.2.1))))
                                        else
                                          (
                                            ck (inR .i64 (s1657.2.2.2.2.2.2.2 + 1)) <|
                                            some (.go (v2146.1, v2146.2.1, v2146.2.2.1, v2146.2.2.2.1, v2146.2.2.2.2.1, v2146.2.2.2.2.2.1, v2146.2.2.2.2.2.2, s1657.2.2.2.2.2.2.2 + 1))
                                          )
                                      )
                                    else
                                      (
                                        ck (inR .i64 (s1657.2.2.2.2.2.2.2 + 1)) <|
                                        some (.go (v2146.1, v2146.2.1, v2146.2.2.1, v2146.2.2.2.1, v2146.2.2.2.2.1, v2146.2.2.2.2.2.1, v2146.2.2.2.2.2.2, s1657.2.2.2.2.2.2.2 + 1))
                                      )
                                  )
                              )
                          )
                      )
                    )
                  else
                    some (.out (.inr ((s1657.1, s1657.2.1))))
                )
              else
                some (.out (.inr ((s1657.1, s1657.2.1))))
            ) (([] : List Int), false, [], false, [], 0, true, 0)).bind fun o2056 =>
          sm o2056 (fun o2255 =>
              some false
            ) (fun o2260 =>
              k1654 (o2260.1, o2260.2)
            )
      ) (fun v1653 =>
        some true
      )
    )
noncomputable def k5 : Eng.CS := { f := 5, calm := true, more := 0, ι := (List (Int × ((Option Addr × Nat) × List Int))) × Bool, ok := fun i => g5 i.1 = some i.2 ∧ (∀ p ∈ i.1, cap40 p), rds := fun i => (i.1).flatMap R40, args := fun i => [.sl 2 i.1.length (ec c40 i.1)], res := fun i => bS i.2 }
set_option maxRecDepth 8000 in
set_option maxHeartbeats 4000000 in
theorem k5_ok : CalmOk Tryd.prog k5 := by
  refine R.calmspec Tryd.func5 nm5 rfl ?_
  rintro ⟨a0, r⟩ ⟨hok, hcap⟩ q hrds args hargs
  have hin0 : ∀ p ∈ a0, P40 q p := P40.of hrds hcap
  match args, hargs with
  | [_], hargs =>
  obtain ⟨⟨A0, cp0, rfl, hc0, _, hR0⟩, _⟩ := hargs
  refine ⟨envC [k9, k10, k11, k12, k13, k14, k15, k16, k17, k20] false [(5, 15), (5, 30), (5, 32)], 6, envC_ok (css_cons ⟨fun h => (by cases h), fun _ => k9_ok⟩ (css_cons ⟨fun _ => k10_ok, fun h => (by cases h)⟩ (css_cons ⟨fun _ => k11_ok, fun h => (by cases h)⟩ (css_cons ⟨fun _ => k12_ok, fun h => (by cases h)⟩ (css_cons ⟨fun h => (by cases h), fun _ => k13_ok⟩ (css_cons ⟨fun h => (by cases h), fun _ => k14_ok⟩ (css_cons ⟨fun h => (by cases h), fun _ => k15_ok⟩ (css_cons ⟨fun h => (by cases h), fun _ => k16_ok⟩ (css_cons ⟨fun h => (by cases h), fun _ => k17_ok⟩ (css_cons ⟨fun _ => k20_ok, fun h => (by cases h)⟩ (css_nil))))))))))), rfl, (by intro x hx; simp only [List.mem_cons, List.not_mem_nil, or_false] at hx; rcases hx with rfl <;> rfl), ?_⟩
  have H : Gives (g5 a0) (fun a => a = r) := ⟨r, hok, rfl⟩
  unfold g5 at H
  clear hok
  obtain ⟨v730, hv731, H⟩ := call_st H
  refine ⟨v730, ⟨hv731⟩, ⟨trivial⟩, ?_⟩
  refine if_st H (fun h732 H => ?_) (fun h732 H => ?_)
  · have hfin := fin_st H
    repeat refine mf2_LiftD6 ?_
    first | exact trivial | exact rfl
  · refine R.cut_famXG H 30 [] [] [] (fun (v1653 : List Int × Bool) (g : (Option Addr × Nat)) => []) (fun (v1653 : List Int × Bool) (g : (Option Addr × Nat)) => [(7, .cells 34 [.v (.slice ((g.1)) (v1653.1.length) ((g.2))), bS v1653.2])]) [] 0 (fun q (v1653 : List Int × Bool) (g : (Option Addr × Nat)) => Reads q g.1 (ei .u8 v1653.1) ∧ v1653.1.length ≤ g.2) (fun H => ?_)
    refine And.intro ?_ ?_
    · refine R.loop_famXG (bind_st H) [0, 4] [(3, 0, 5, 1), (3, 2, 5, 1)] [] (fun _ => fun (s1657 : List Int × Bool × List Int × Bool × List Int × Int × Bool × Int) (g : (Option Addr × Nat)) => [(3, .lp 17 0), (5, .v (.int .i64 (s1657.2.2.2.2.2.2.2)))]) (fun _ => fun (s1657 : List Int × Bool × List Int × Bool × List Int × Int × Bool × Int) (g : (Option Addr × Nat)) => [(7, .cells 34 [.v (.slice ((g.1)) (s1657.1.length) ((g.2))), bS s1657.2.1]), (17, .cells 55 [.own 18, bS s1657.2.2.2.1, .own 19, .v (.int .i64 (s1657.2.2.2.2.2.1)), bS s1657.2.2.2.2.2.2.1]), (18, .arr 5 1 (s1657.2.2.1.length) (ei .u8 (s1657.2.2.1))), (19, .arr 5 1 (s1657.2.2.2.2.1.length) (ei .u8 (s1657.2.2.2.2.1)))]) 3 (fun q (s1657 : List Int × Bool × List Int × Bool × List Int × Int × Bool × Int) (g : (Option Addr × Nat)) => Reads q g.1 (ei .u8 s1657.1) ∧ s1657.1.length ≤ g.2) (fun n2265 H => ?_)
      refine ⟨(n2265, _, (none, 0)), ⟨H⟩, ⟨Reads.nil, Nat.le_refl _⟩, ?_⟩
      repeat refine mo2_LiftD6 ?_
      rintro q1656 hq1655 ⟨m0, s1657, ⟨A1854, c1855⟩⟩ H hrd
      obtain ⟨hR1856, hc1857⟩ := hrd
      obtain ⟨m1658, hm0, H⟩ := IG_succ H
      dsimp only at hm0 hR1856 hc1857
      subst hm0
      try dsimp only at H
      refine if_st H (fun h2057 H => ?_) (fun h2057 H => ?_)
      · refine if_st H (fun h2058 H => ?_) (fun h2058 H => ?_)
        · refine ob_ix (Reads.mono hq1655 hR0) (fun h => ec0 c40_len (by decide) h) H fun h2059 H => ?_
          refine ld_sl (A := (a0.getD s1657.2.2.2.2.2.2.2.toNat default).2.1.1) (n := (a0.getD s1657.2.2.2.2.2.2.2.toNat default).2.2.length) (c := (a0.getD s1657.2.2.2.2.2.2.2.toNat default).2.1.2) (rd_get (Reads.mono hq1655 hR0) ((ec_get (i := s1657.2.2.2.2.2.2.2.toNat) (o := 1) c40_len (tn h2059) (by decide)).trans rfl)) ?_
          refine ob_sl ((fun p hp => P40.mono hq1655 (hin0 p hp)) _ (getD_mem (tn h2059))).2 H fun h2060 H => ?_
          have hs2061 := sl_ei ((fun p hp => P40.mono hq1655 (hin0 p hp)) _ (getD_mem (tn h2059))).1 rfl ((fun p hp => P40.mono hq1655 (hin0 p hp)) _ (getD_mem (tn h2059))).2 h2060
          intro n2062 hn2063
          obtain rfl : n2062 = ((((a0.getD s1657.2.2.2.2.2.2.2.toNat default).2.2).drop (0 : Int).toNat).take ((gmin (((a0.getD s1657.2.2.2.2.2.2.2.toNat default).2.2.length : Nat) : Int) 300).toNat - (0 : Int).toNat)).length := hn2063.trans hs2061.2.1.symm
          refine R.cut_famXG H 99 [0, 4, 5, 28, 29] [] [] (fun (v2146 : List Int × Bool × List Int × Bool × List Int × Int × Bool) (g : (Option Addr × Nat)) => [(3, .lp 99 0)]) (fun (v2146 : List Int × Bool × List Int × Bool × List Int × Int × Bool) (g : (Option Addr × Nat)) => [(7, .cells 34 [.v (.slice ((g.1)) (v2146.1.length) ((g.2))), bS v2146.2.1]), (99, .cells 55 [.own 100, bS v2146.2.2.2.1, .own 101, .v (.int .i64 (v2146.2.2.2.2.2.1)), bS v2146.2.2.2.2.2.2]), (100, .arr 5 1 (v2146.2.2.1.length) (ei .u8 (v2146.2.2.1))), (101, .arr 5 1 (v2146.2.2.2.2.1.length) (ei .u8 (v2146.2.2.2.2.1)))]) [] 3 (fun q (v2146 : List Int × Bool × List Int × Bool × List Int × Int × Bool) (g : (Option Addr × Nat)) => Reads q g.1 (ei .u8 v2146.1) ∧ v2146.1.length ≤ g.2) (fun H => ?_)
          refine And.intro ?_ ?_
          · refine ob_ix (Reads.mono hq1655 hR0) (fun h => ec0 c40_len (by decide) h) H fun h2148 H => ?_
            refine ld_int (e := (a0.getD s1657.2.2.2.2.2.2.2.toNat default).1) (rd_get (Reads.mono hq1655 hR0) ((ec_get (i := s1657.2.2.2.2.2.2.2.toNat) (o := 0) c40_len (tn h2148) (by decide)).trans rfl)) ?_
            refine And.intro ⟨by decide⟩ ?_
            refine R.cut_fam H 53 [0, 3, 4, 5, 6, 28, 29, 44] [] (fun v2150 => [(49, bS v2150)]) (fun v2150 => []) [(7, .cells 34 [.v (.slice (A1854) (s1657.1.length) (c1855)), bS s1657.2.1]), (17, .cells 55 [.own 18, bS s1657.2.2.2.1, .own 19, .v (.int .i64 (s1657.2.2.2.2.2.1)), bS s1657.2.2.2.2.2.2.1]), (18, .arr 5 1 (s1657.2.2.1.length) (ei .u8 (s1657.2.2.1))), (19, .arr 5 1 (s1657.2.2.2.2.1.length) (ei .u8 (s1657.2.2.2.2.1)))] 0 (fun H => ?_)
            refine And.intro ?_ ?_
            · refine if_st H (fun h2152 H => ?_) (fun h2152 H => ?_)
              · refine ⟨(decide ((Int.tmod ((a0.getD s1657.2.2.2.2.2.2.2.toNat default).1) 5) = 0)), ⟨H⟩, ⟨rfl⟩, ?_⟩
                repeat refine mo2_LiftD6 ?_
                first | exact trivial | exact rfl
              · refine ⟨(decide ((Int.tmod ((a0.getD s1657.2.2.2.2.2.2.2.toNat default).1) 5) = 1)), ⟨H⟩, ⟨rfl⟩, ?_⟩
                repeat refine mo2_LiftD6 ?_
                first | exact trivial | exact rfl
            · intro v2150 H
              refine if_st H (fun h2153 H => ?_) (fun h2153 H => ?_)
              · obtain ⟨v2154, hv2155, H⟩ := call_st H
                refine ⟨((s1657.1, s1657.2.1), ((((a0.getD s1657.2.2.2.2.2.2.2.toNat default).2.2).drop (0 : Int).toNat).take ((gmin (((a0.getD s1657.2.2.2.2.2.2.2.toNat default).2.2.length : Nat) : Int) 300).toNat - (0 : Int).toNat)), v2154, ((A1854, c1855), (if (a0.getD s1657.2.2.2.2.2.2.2.toNat default).2.1.2 = (0 : Int).toNat then (a0.getD s1657.2.2.2.2.2.2.2.toNat default).2.1.1 else ((a0.getD s1657.2.2.2.2.2.2.2.toNat default).2.1.1).map (·.add ((0 : Int).toNat)), ((a0.getD s1657.2.2.2.2.2.2.2.toNat default).2.1.2) - (0 : Int).toNat))), ⟨hv2155, hc1857, (Nat.le_trans (Nat.le_of_eq hs2061.2.1) hs2061.2.2)⟩, ⟨hR1856, hs2061.1, trivial⟩, ?_⟩
                refine And.intro ⟨rfl⟩ ?_
                refine mo2_LiftD6 ?_
                refine And.intro ⟨rfl⟩ ?_
                intro q2156 g2157 hq2158 hok2159 hrd2160
                obtain ⟨⟨A2161, c2162⟩, ⟨A2165, c2166⟩⟩ := g2157
                obtain ⟨hc2163, hc2167⟩ := hok2159
                obtain ⟨hR2164, hR2168, _⟩ := hrd2160
                dsimp only at hc2163 hR2164 hc2167 hR2168
                obtain ⟨v2169, hv2170, H⟩ := call_st H
                refine ⟨((s1657.2.2.1, s1657.2.2.2.1, s1657.2.2.2.2.1, s1657.2.2.2.2.2.1, s1657.2.2.2.2.2.2.1), ((((a0.getD s1657.2.2.2.2.2.2.2.toNat default).2.2).drop (0 : Int).toNat).take ((gmin (((a0.getD s1657.2.2.2.2.2.2.2.toNat default).2.2.length : Nat) : Int) 300).toNat - (0 : Int).toNat)), v2169), ⟨hv2170⟩, ⟨trivial⟩, ?_⟩
                refine And.intro ⟨rfl⟩ ?_
                refine And.intro ⟨rfl, (Nat.le_trans (Nat.le_of_eq hs2061.2.1) hs2061.2.2), ei_len.trans ((show _ = _ from rfl).trans (Nat.mul_one _).symm), (Reads.mono hq2158 hs2061.1)⟩ ?_
                refine mo2_LiftD6 ?_
                refine mo2_LiftD6 ?_
                refine mo2_LiftD6 ?_
                refine mo2_LiftD6 ?_
                refine mo2_LiftD6 ?_
                obtain ⟨v2171, hv2172, H⟩ := call_st H
                refine ⟨(v2169.1, v2154.2, v2171), ⟨hv2172⟩, ⟨trivial⟩, ?_⟩
                refine And.intro ⟨by first | rfl | (simp; done), by first | rfl | (simp [ei, eb, es, ec, c40, c51]; done) | (simp only [ei, eb, es, ec, c40, c51, List.map_append, List.nil_append, List.append_assoc]; rfl)⟩ ?_
                refine And.intro ⟨rfl, hc2167, (ec_len c51_len).trans (congrArg (· * 6) (show _ = _ from rfl)), hR2168⟩ ?_
                refine if_st H (fun h2173 H => ?_) (fun h2173 H => ?_)
                · replace H := some_st H
                  dsimp only [stp, sm] at H
                  have hfin := fin_st H
                  repeat refine mf2_LiftD6 ?_
                  first | exact trivial | exact rfl
                · refine ⟨((v2154.1.1, v2154.1.2, v2169.2.1, v2169.2.2.1, v2169.2.2.2.1, v2169.2.2.2.2.1, v2169.2.2.2.2.2), (A2161, c2162)), ⟨H, hR2164, hc2163⟩, ⟨fun _ _ _ h => (hq2158 _ _ _ h)⟩, ?_⟩
                  repeat refine mo2_LiftD6 ?_
                  first | exact trivial | exact rfl
              · refine if_st H (fun h2174 H => ?_) (fun h2174 H => ?_)
                · obtain ⟨v2175, hv2176, H⟩ := call_st H
                  refine ⟨((s1657.1, s1657.2.1), v2175, (A1854, c1855)), ⟨hv2176, hc1857⟩, ⟨hR1856, trivial⟩, ?_⟩
                  refine And.intro ⟨rfl⟩ ?_
                  refine mo2_LiftD6 ?_
                  intro q2177 g2178 hq2179 hok2180 hrd2181
                  obtain ⟨⟨A2182, c2183⟩, ⟨A2186, c2187⟩⟩ := g2178
                  obtain ⟨hc2184, hc2188⟩ := hok2180
                  obtain ⟨hR2185, hR2189, _⟩ := hrd2181
                  dsimp only at hc2184 hR2185 hc2188 hR2189
                  obtain ⟨v2190, hv2191, H⟩ := call_st H
                  refine ⟨((s1657.2.2.1, s1657.2.2.2.1, s1657.2.2.2.2.1, s1657.2.2.2.2.2.1, s1657.2.2.2.2.2.2.1), v2190), ⟨hv2191⟩, ⟨trivial⟩, ?_⟩
                  refine And.intro ⟨rfl⟩ ?_
                  refine mo2_LiftD6 ?_
                  refine mo2_LiftD6 ?_
                  refine mo2_LiftD6 ?_
                  refine mo2_LiftD6 ?_
                  refine mo2_LiftD6 ?_
                  obtain ⟨v2192, hv2193, H⟩ := call_st H
                  refine ⟨(v2190.1, v2175.2, v2192), ⟨hv2193⟩, ⟨trivial⟩, ?_⟩
                  refine And.intro ⟨by first | rfl | (simp; done), by first | rfl | (simp [ei, eb, es, ec, c40, c51]; done) | (simp only [ei, eb, es, ec, c40, c51, List.map_append, List.nil_append, List.append_assoc]; rfl)⟩ ?_
                  refine And.intro ⟨rfl, hc2188, (ec_len c51_len).trans (congrArg (· * 6) (show _ = _ from rfl)), hR2189⟩ ?_
                  refine if_st H (fun h2194 H => ?_) (fun h2194 H => ?_)
                  · replace H := some_st H
                    dsimp only [stp, sm] at H
                    have hfin := fin_st H
                    repeat refine mf2_LiftD6 ?_
                    first | exact trivial | exact rfl
                  · refine ⟨((v2175.1.1, v2175.1.2, v2190.2.1, v2190.2.2.1, v2190.2.2.2.1, v2190.2.2.2.2.1, v2190.2.2.2.2.2), (A2182, c2183)), ⟨H, hR2185, hc2184⟩, ⟨fun _ _ _ h => (hq2179 _ _ _ h)⟩, ?_⟩
                    repeat refine mo2_LiftD6 ?_
                    first | exact trivial | exact rfl
                · refine if_st H (fun h2195 H => ?_) (fun h2195 H => ?_)
                  · obtain ⟨v2196, hv2197, H⟩ := call_st H
                    refine ⟨((s1657.1, s1657.2.1), ((((a0.getD s1657.2.2.2.2.2.2.2.toNat default).2.2).drop (0 : Int).toNat).take ((gmin (((a0.getD s1657.2.2.2.2.2.2.2.toNat default).2.2.length : Nat) : Int) 300).toNat - (0 : Int).toNat)), v2196, ((A1854, c1855), (if (a0.getD s1657.2.2.2.2.2.2.2.toNat default).2.1.2 = (0 : Int).toNat then (a0.getD s1657.2.2.2.2.2.2.2.toNat default).2.1.1 else ((a0.getD s1657.2.2.2.2.2.2.2.toNat default).2.1.1).map (·.add ((0 : Int).toNat)), ((a0.getD s1657.2.2.2.2.2.2.2.toNat default).2.1.2) - (0 : Int).toNat))), ⟨hv2197, hc1857, (Nat.le_trans (Nat.le_of_eq hs2061.2.1) hs2061.2.2)⟩, ⟨hR1856, hs2061.1, trivial⟩, ?_⟩
                    refine And.intro ⟨rfl⟩ ?_
                    refine mo2_LiftD6 ?_
                    refine And.intro ⟨rfl⟩ ?_
                    intro q2198 g2199 hq2200 hok2201 hrd2202
                    obtain ⟨⟨A2203, c2204⟩, ⟨A2207, c2208⟩⟩ := g2199
                    obtain ⟨hc2205, hc2209⟩ := hok2201
                    obtain ⟨hR2206, hR2210, _⟩ := hrd2202
                    dsimp only at hc2205 hR2206 hc2209 hR2210
                    obtain ⟨v2211, hv2212, H⟩ := call_st H
                    refine ⟨((s1657.2.2.1, s1657.2.2.2.1, s1657.2.2.2.2.1, s1657.2.2.2.2.2.1, s1657.2.2.2.2.2.2.1), ((((a0.getD s1657.2.2.2.2.2.2.2.toNat default).2.2).drop (0 : Int).toNat).take ((gmin (((a0.getD s1657.2.2.2.2.2.2.2.toNat default).2.2.length : Nat) : Int) 300).toNat - (0 : Int).toNat)), v2211), ⟨hv2212⟩, ⟨trivial⟩, ?_⟩
                    refine And.intro ⟨rfl⟩ ?_
                    refine And.intro ⟨rfl, (Nat.le_trans (Nat.le_of_eq hs2061.2.1) hs2061.2.2), ei_len.trans ((show _ = _ from rfl).trans (Nat.mul_one _).symm), (Reads.mono hq2200 hs2061.1)⟩ ?_
                    refine mo2_LiftD6 ?_
                    refine mo2_LiftD6 ?_
                    refine mo2_LiftD6 ?_
                    refine mo2_LiftD6 ?_
                    refine mo2_LiftD6 ?_
                    obtain ⟨v2213, hv2214, H⟩ := call_st H
                    refine ⟨(v2211.1, v2196.2.1, v2213), ⟨hv2214⟩, ⟨trivial⟩, ?_⟩
                    refine And.intro ⟨by first | rfl | (simp; done), by first | rfl | (simp [ei, eb, es, ec, c40, c51]; done) | (simp only [ei, eb, es, ec, c40, c51, List.map_append, List.nil_append, List.append_assoc]; rfl)⟩ ?_
                    refine And.intro ⟨rfl, hc2209, (ec_len c51_len).trans (congrArg (· * 6) (show _ = _ from rfl)), hR2210⟩ ?_
                    refine if_st H (fun h2215 H => ?_) (fun h2215 H => ?_)
                    · replace H := some_st H
                      dsimp only [stp, sm] at H
                      have hfin := fin_st H
                      repeat refine mf2_LiftD6 ?_
                      first | exact trivial | exact rfl
                    · refine if_st H (fun h2216 H => ?_) (fun h2216 H => ?_)
                      · replace H := some_st H
                        dsimp only [stp, sm] at H
                        have hfin := fin_st H
                        repeat refine mf2_LiftD6 ?_
                        first | exact trivial | exact rfl
                      · refine ⟨((v2196.1.1, v2196.1.2, v2211.2.2.1, v2211.2.2.2.1, v2211.2.2.2.2.1, v2211.2.2.2.2.2.1, v2211.2.2.2.2.2.2), (A2203, c2204)), ⟨H, hR2206, hc2205⟩, ⟨fun _ _ _ h => (hq2200 _ _ _ h)⟩, ?_⟩
                        repeat refine mo2_LiftD6 ?_
                        first | exact trivial | exact rfl
                  · refine if_st H (fun h2217 H => ?_) (fun h2217 H => ?_)
                    · replace H := some_st H
                      dsimp only [stp, sm] at H
                      have hfin := fin_st H
                      repeat refine mf2_LiftD6 ?_
                      first | exact trivial | exact rfl
                    · refine ob_app (by decide) (by first | exact ei_one | ((repeat (refine List.forall_mem_cons.2 ⟨rfl, ?_⟩)); intro y hy; cases hy; done) | (intro y hy; simp [ei, eb, es, ec, c40, c51] at hy; (first | (rcases hy with rfl | hy) | subst hy | skip); all_goals first | rfl | simp_all [Value.oneCell'])) H fun h2218 H => ?_
                      intro n2219 zs2221 hn2220 hz2222
                      obtain rfl : n2219 = (([] : List Int) ++ s1657.2.2.1).length := hn2220.trans (by first | exact List.length_append.symm | (simp; done) | (simp; omega))
                      obtain rfl : zs2221 = ei .u8 (([] : List Int) ++ s1657.2.2.1) := by first | exact hz2222.trans (ei_app (xs := ([] : List Int)) (ys := s1657.2.2.1)).symm | (rw [hz2222, ei_vw]; first | exact ei_app.symm | exact (ei_app (xs := ([] : List Int))).symm) | (rw [hz2222]; simp [ei, eb, es, ec, c40, c51])
                      refine ob_app (by decide) (by first | exact ei_one | ((repeat (refine List.forall_mem_cons.2 ⟨rfl, ?_⟩)); intro y hy; cases hy; done) | (intro y hy; simp [ei, eb, es, ec, c40, c51] at hy; (first | (rcases hy with rfl | hy) | subst hy | skip); all_goals first | rfl | simp_all [Value.oneCell'])) H fun h2223 H => ?_
                      intro n2224 zs2226 hn2225 hz2227
                      obtain rfl : n2224 = (([] : List Int) ++ s1657.2.2.2.2.1).length := hn2225.trans (by first | exact List.length_append.symm | (simp; done) | (simp; omega))
                      obtain rfl : zs2226 = ei .u8 (([] : List Int) ++ s1657.2.2.2.2.1) := by first | exact hz2227.trans (ei_app (xs := ([] : List Int)) (ys := s1657.2.2.2.2.1)).symm | (rw [hz2227, ei_vw]; first | exact ei_app.symm | exact (ei_app (xs := ([] : List Int))).symm) | (rw [hz2227]; simp [ei, eb, es, ec, c40, c51])
                      refine ⟨((s1657.1, s1657.2.1, (([] : List Int) ++ s1657.2.2.1), s1657.2.2.2.1, (([] : List Int) ++ s1657.2.2.2.2.1), s1657.2.2.2.2.2.1, s1657.2.2.2.2.2.2.1), (A1854, c1855)), ⟨H, hR1856, hc1857⟩, ⟨fun _ _ _ h => h⟩, ?_⟩
                      repeat refine mo2_LiftD6 ?_
                      first | exact trivial | exact rfl
          · rintro q2145 hq2144 ⟨v2146, ⟨A2228, c2229⟩⟩ ⟨H, hR2230, hc2231⟩
            dsimp only at H hR2230 hc2231
            refine And.intro ⟨by kernel_rfl⟩ ?_
            refine ⟨(Pn.calm 0 (Pn.calm 1 (Pn.calm 2 (Pn.eff 3 [2, 1, 0] (Pn.calm 4 (Pn.calm 5 (Pn.calm 6 (Pn.calm 7 (Pn.calm 8 (Pn.calm 9 (Pn.calm 10 (Pn.calm 11 (Pn.calm 12 (Pn.calm 13 (Pn.calm 14 (Pn.calm 15 (Pn.calm 16 (Pn.calm 17 (Pn.calm 18 (Pn.calm 19 (Pn.calm 20 (Pn.calm 21 Pn.done)))))))))))))))))) Pn.no)))), ⟨by kernel_rfl⟩, ?_⟩
            obtain ⟨v2232, hv2233, H⟩ := call_st H
            refine ⟨((v2146.2.2.1, v2146.2.2.2.1, v2146.2.2.2.2.1, v2146.2.2.2.2.2.1, v2146.2.2.2.2.2.2), v2232), ⟨hv2233⟩, ⟨trivial⟩, ?_⟩
            refine mo2_LiftD6 ?_
            refine mo2_LiftD6 ?_
            refine mo2_LiftD6 ?_
            refine mo2_LiftD6 ?_
            refine mo2_LiftD6 ?_
            refine And.intro ?_ trivial
            refine if_st H (fun h2234 H => ?_) (fun h2234 H => ?_)
            · refine And.intro ⟨fun _ _ _ h => h⟩ ?_
              refine if_st H (fun h2235 H => ?_) (fun h2235 H => ?_)
              · replace H := some_st H
                dsimp only [stp, sm] at H
                have hfin := fin_st H
                repeat refine mf2_LiftD6 ?_
                first | exact trivial | exact rfl
              · obtain ⟨v2236, hv2237, H⟩ := call_st H
                refine ⟨((v2146.2.2.1, v2146.2.2.2.1, v2146.2.2.2.2.1, v2146.2.2.2.2.2.1, v2146.2.2.2.2.2.2), v2236), ⟨hv2237⟩, ⟨trivial⟩, ?_⟩
                refine mo2_LiftD6 ?_
                refine mo2_LiftD6 ?_
                refine mo2_LiftD6 ?_
                refine mo2_LiftD6 ?_
                refine mo2_LiftD6 ?_
                refine if_st H (fun h2238 H => ?_) (fun h2238 H => ?_)
                · replace H := some_st H
                  dsimp only [stp, sm] at H
                  have hfin := fin_st H
                  repeat refine mf2_LiftD6 ?_
                  first | exact trivial | exact rfl
                · refine if_st H (fun h2239 H => ?_) (fun h2239 H => ?_)
                  · obtain ⟨v2240, hv2241, H⟩ := call_st H
                    refine ⟨((v2146.2.2.1, v2146.2.2.2.1, v2146.2.2.2.2.1, v2146.2.2.2.2.2.1, v2146.2.2.2.2.2.2), v2240), ⟨hv2241⟩, ⟨trivial⟩, ?_⟩
                    refine mo2_LiftD6 ?_
                    refine mo2_LiftD6 ?_
                    refine mo2_LiftD6 ?_
                    refine mo2_LiftD6 ?_
                    refine mo2_LiftD6 ?_
                    refine if_st H (fun h2242 H => ?_) (fun h2242 H => ?_)
                    · replace H := some_st H
                      dsimp only [stp, sm] at H
                      have hfin := fin_st H
                      repeat refine mf2_LiftD6 ?_
                      first | exact trivial | exact rfl
                    · refine ob_ck H fun h2243 H => ?_
                      replace H := some_st H
                      refine ⟨(m1658, (v2146.1, v2146.2.1, v2146.2.2.1, v2146.2.2.2.1, v2146.2.2.2.2.1, v2146.2.2.2.2.2.1, v2146.2.2.2.2.2.2, s1657.2.2.2.2.2.2.2 + 1), (A2228, c2229)), ⟨H, Nat.lt_succ_self _⟩, ⟨hR2230, hc2231⟩, ⟨fun _ _ _ h => (hq2144 _ _ _ (hq1655 _ _ _ h))⟩, ?_⟩
                      repeat refine mo2_LiftD6 ?_
                      first | exact trivial | exact rfl
                  · refine ob_ck H fun h2244 H => ?_
                    replace H := some_st H
                    refine ⟨(m1658, (v2146.1, v2146.2.1, v2146.2.2.1, v2146.2.2.2.1, v2146.2.2.2.2.1, v2146.2.2.2.2.2.1, v2146.2.2.2.2.2.2, s1657.2.2.2.2.2.2.2 + 1), (A2228, c2229)), ⟨H, Nat.lt_succ_self _⟩, ⟨hR2230, hc2231⟩, ⟨fun _ _ _ h => (hq2144 _ _ _ (hq1655 _ _ _ h))⟩, ?_⟩
                    repeat refine mo2_LiftD6 ?_
                    first | exact trivial | exact rfl
            · refine And.intro ⟨fun _ _ _ h => h⟩ ?_
              refine if_st H (fun h2245 H => ?_) (fun h2245 H => ?_)
              · replace H := some_st H
                dsimp only [stp, sm] at H
                have hfin := fin_st H
                repeat refine mf2_LiftD6 ?_
                first | exact trivial | exact rfl
              · obtain ⟨v2246, hv2247, H⟩ := call_st H
                refine ⟨((v2146.2.2.1, v2146.2.2.2.1, v2146.2.2.2.2.1, v2146.2.2.2.2.2.1, v2146.2.2.2.2.2.2), v2246), ⟨hv2247⟩, ⟨trivial⟩, ?_⟩
                refine mo2_LiftD6 ?_
                refine mo2_LiftD6 ?_
                refine mo2_LiftD6 ?_
                refine mo2_LiftD6 ?_
                refine mo2_LiftD6 ?_
                refine if_st H (fun h2248 H => ?_) (fun h2248 H => ?_)
                · replace H := some_st H
                  dsimp only [stp, sm] at H
                  have hfin := fin_st H
                  repeat refine mf2_LiftD6 ?_
                  first | exact trivial | exact rfl
                · refine if_st H (fun h2249 H => ?_) (fun h2249 H => ?_)
                  · obtain ⟨v2250, hv2251, H⟩ := call_st H
                    refine ⟨((v2146.2.2.1, v2146.2.2.2.1, v2146.2.2.2.2.1, v2146.2.2.2.2.2.1, v2146.2.2.2.2.2.2), v2250), ⟨hv2251⟩, ⟨trivial⟩, ?_⟩
                    refine mo2_LiftD6 ?_
                    refine mo2_LiftD6 ?_
                    refine mo2_LiftD6 ?_
                    refine mo2_LiftD6 ?_
                    refine mo2_LiftD6 ?_
                    refine if_st H (fun h2252 H => ?_) (fun h2252 H => ?_)
                    · replace H := some_st H
                      dsimp only [stp, sm] at H
                      have hfin := fin_st H
                      repeat refine mf2_LiftD6 ?_
                      first | exact trivial | exact rfl
                    · refine ob_ck H fun h2253 H => ?_
                      replace H := some_st H
                      refine ⟨(m1658, (v2146.1, v2146.2.1, v2146.2.2.1, v2146.2.2.2.1, v2146.2.2.2.2.1, v2146.2.2.2.2.2.1, v2146.2.2.2.2.2.2, s1657.2.2.2.2.2.2.2 + 1), (A2228, c2229)), ⟨H, Nat.lt_succ_self _⟩, ⟨hR2230, hc2231⟩, ⟨fun _ _ _ h => (hq2144 _ _ _ (hq1655 _ _ _ h))⟩, ?_⟩
                      repeat refine mo2_LiftD6 ?_
                      first | exact trivial | exact rfl
                  · refine ob_ck H fun h2254 H => ?_
                    replace H := some_st H
                    refine ⟨(m1658, (v2146.1, v2146.2.1, v2146.2.2.1, v2146.2.2.2.1, v2146.2.2.2.2.1, v2146.2.2.2.2.2.1, v2146.2.2.2.2.2.2, s1657.2.2.2.2.2.2.2 + 1), (A2228, c2229)), ⟨H, Nat.lt_succ_self _⟩, ⟨hR2230, hc2231⟩, ⟨fun _ _ _ h => (hq2144 _ _ _ (hq1655 _ _ _ h))⟩, ?_⟩
                    repeat refine mo2_LiftD6 ?_
                    first | exact trivial | exact rfl
        · replace H := some_st H
          dsimp only [stp, sm] at H
          refine ⟨((s1657.1, s1657.2.1), (A1854, c1855)), ⟨H, hR1856, hc1857⟩, ⟨fun _ _ _ h => (hq1655 _ _ _ h)⟩, ?_⟩
          repeat refine mo2_LiftD6 ?_
          first | exact trivial | exact rfl
      · replace H := some_st H
        dsimp only [stp, sm] at H
        refine ⟨((s1657.1, s1657.2.1), (A1854, c1855)), ⟨H, hR1856, hc1857⟩, ⟨fun _ _ _ h => (hq1655 _ _ _ h)⟩, ?_⟩
        repeat refine mo2_LiftD6 ?_
        first | exact trivial | exact rfl
    · rintro q1652 hq1651 ⟨v1653, ⟨A2266, c2267⟩⟩ ⟨H, hR2268, hc2269⟩
      dsimp only at H hR2268 hc2269
      have hfin := fin_st H
      repeat refine mf2_LiftD6 ?_
      first | exact trivial | exact rfl

end Go.Proofs.YtenjkphlbdhaiaaDoor
