/-
  Texts that the law leans on. Nothing here is trusted.
-/
import Derived.Test.YtenjkphlbdhaiaaEU4
import Derived.Test.YtenjkphlbdhaiaaEU1
import Derived.Test.YtenjkphlbdhaiaaBldB
import Derived.Test.YtenjkphlbdhaiaaEU2
import Derived.Test.YtenjkphlbdhaiaaJoinB
import Derived.Test.YtenjkphlbdhaiaaEU3
import Derived.Test.YtenjkphlbdhaiaaFlatB
import Derived.KernelRfl
set_option linter.unusedVariables false
set_option linter.unusedSimpArgs false
section
namespace Go.Proofs.Ytenjkphlbdhaiaa
open Go Go.Eng
theorem mo1E12 {p q : Prop} (k : q) (h : p := by first | exact rfl | exact Iff.rfl | exact ⟨rfl, rfl⟩ | exact decide_eq_true_iff | (constructor <;> first | exact rfl | (simp only [ei, eb, es, ec, c25, c105, c135, gmin, gmax, List.map_append, List.flatMap_append, List.nil_append, List.append_nil, List.append_assoc]; done) | omega | (simp only [List.nil_append, List.length_append, List.length_cons, List.length_nil]; omega) | (simp [ei, eb, es, ec, c25, c105, c135, gmin, gmax]; done)) | exact rfl | (simp only [ei, eb, es, ec, c25, c105, c135, gmin, gmax, List.map_append, List.flatMap_append, List.nil_append, List.append_nil, List.append_assoc]; done) | omega | (simp only [List.nil_append, List.length_append, List.length_cons, List.length_nil]; omega) | (simp [ei, eb, es, ec, c25, c105, c135, gmin, gmax]; done) | simp [ei, eb, es, ec, c25, c105, c135, gmin, gmax]) : Ob p ∧ q := ⟨⟨h⟩, k⟩
theorem mf1E12 {p q : Prop} (k : q) (h : p := by first | (rw [← hfin] <;> first | exact rfl | exact Iff.rfl | exact ⟨rfl, rfl⟩ | exact decide_eq_true_iff | (constructor <;> first | exact rfl | (simp only [ei, eb, es, ec, c25, c105, c135, gmin, gmax, List.map_append, List.flatMap_append, List.nil_append, List.append_nil, List.append_assoc]; done) | omega | (simp only [List.nil_append, List.length_append, List.length_cons, List.length_nil]; omega) | (simp [ei, eb, es, ec, c25, c105, c135, gmin, gmax]; done)) | exact rfl | (simp only [ei, eb, es, ec, c25, c105, c135, gmin, gmax, List.map_append, List.flatMap_append, List.nil_append, List.append_nil, List.append_assoc]; done) | omega | (simp only [List.nil_append, List.length_append, List.length_cons, List.length_nil]; omega) | (simp [ei, eb, es, ec, c25, c105, c135, gmin, gmax]; done) | simp [ei, eb, es, ec, c25, c105, c135, gmin, gmax]) | first | exact rfl | exact Iff.rfl | exact ⟨rfl, rfl⟩ | exact decide_eq_true_iff | (constructor <;> first | exact rfl | (simp only [ei, eb, es, ec, c25, c105, c135, gmin, gmax, List.map_append, List.flatMap_append, List.nil_append, List.append_nil, List.append_assoc]; done) | omega | (simp only [List.nil_append, List.length_append, List.length_cons, List.length_nil]; omega) | (simp [ei, eb, es, ec, c25, c105, c135, gmin, gmax]; done)) | exact rfl | (simp only [ei, eb, es, ec, c25, c105, c135, gmin, gmax, List.map_append, List.flatMap_append, List.nil_append, List.append_nil, List.append_assoc]; done) | omega | (simp only [List.nil_append, List.length_append, List.length_cons, List.length_nil]; omega) | (simp [ei, eb, es, ec, c25, c105, c135, gmin, gmax]; done) | simp [ei, eb, es, ec, c25, c105, c135, gmin, gmax]) : Ob p ∧ q := ⟨⟨h⟩, k⟩
noncomputable def g36  : Option (Bool) :=
 (g32 ((20, [], 0, 0), ([] : List (List ByteArray)), ([] : List ((List ByteArray) × Int)), false, false, 0, 0) (lit [97, 98, 32, 99, 100])).bind fun v1 =>
 (g34 ((v1.2.1.1, v1.2.1.2.1, v1.2.1.2.2.1, v1.2.1.2.2.2), v1.2.2.1, v1.2.2.2.1, v1.2.2.2.2.1, v1.2.2.2.2.2.1, v1.2.2.2.2.2.2.1, v1.2.2.2.2.2.2.2) 12).bind fun v16 =>
 (g34 ((v16.2.1.1, v16.2.1.2.1, v16.2.1.2.2.1, v16.2.1.2.2.2), v16.2.2.1, v16.2.2.2.1, v16.2.2.2.2.1, v16.2.2.2.2.2.1, v16.2.2.2.2.2.2.1, v16.2.2.2.2.2.2.2) 12).bind fun v31 =>
 (g16 (v31.2.1.1, v31.2.1.2.1, v31.2.1.2.2.1, v31.2.1.2.2.2)).bind fun v48 =>
 (g34 ((v31.2.1.1, v31.2.1.2.1, v31.2.1.2.2.1, v31.2.1.2.2.2), v31.2.2.1, v31.2.2.2.1, v31.2.2.2.2.1, v31.2.2.2.2.2.1, v31.2.2.2.2.2.2.1, v31.2.2.2.2.2.2.2) 13).bind fun v50 =>
 jn (α := _) (β := List ByteArray) (fun k255 =>
   (loopO (σ := List ByteArray × Int) (ρ := List ByteArray) (fun s258 =>
     if s258.2 < ((v50.2.2.1.length : Nat) : Int) then
      (
       ck (0 ≤ s258.2 ∧ s258.2 < ((v50.2.2.1.length : Nat) : Int)) <|
       (g81 (v50.2.2.1.getD s258.2.toNat default) (lit [])).bind fun v304 =>
       ck ((s258.1.length + 1) * 16 ≤ 140737488355328) <|
       ck (inR .i64 (s258.2 + 1)) <|
       some (.go ((s258.1 ++ [v304]), s258.2 + 1))
      )
     else
      some (.out s258.1)
    ) ([], 0)).bind fun o294 =>
    k255 o294
 ) (fun v254 =>
  if v1.1 = true then
   (
    if v16.1 = true then
     (
      if v31.1 = true then
       (
        if v48.data.toList = (lit []).data.toList then
         (
          if v50.1 = true then
           (
            (g16 (v50.2.1.1, v50.2.1.2.1, v50.2.1.2.2.1, v50.2.1.2.2.2)).bind fun v318 =>
            if v318.data.toList = (lit [97, 98, 32, 99, 100]).data.toList then
             (
              if ((v254.length : Nat) : Int) = 1 then
               (
                ck (0 ≤ (0 : Int) ∧ 0 < ((v254.length : Nat) : Int)) <|
                if (v254.getD (0 : Int).toNat default).data.toList = (lit [97, 98, 32, 99, 100]).data.toList then
                 (
                  (g34 ((v50.2.1.1, v50.2.1.2.1, v50.2.1.2.2.1, v50.2.1.2.2.2), v50.2.2.1, v50.2.2.2.1, v50.2.2.2.2.1, v50.2.2.2.2.2.1, v50.2.2.2.2.2.2.1, v50.2.2.2.2.2.2.2) 14).bind fun v324 =>
                  if ¬ (v324.1 = true) then
                   some (decide (((v324.2.2.2.1.length : Nat) : Int) = 4))
                  else
                   some false
                 )
                else
                 some false
               )
              else
               some false
             )
            else
             some false
           )
          else
           some false
         )
        else
         some false
       )
      else
       some false
     )
    else
     some false
   )
  else
   some false
 )
noncomputable def k36 : Eng.CS := { f := 36, calm := true, more := 0, ι := Bool, ok := fun i => g36  = some i, rds := fun _ => [], args := fun i => [], res := fun i => bS i }
set_option maxRecDepth 8000 in
set_option maxHeartbeats 4000000 in
theorem k36_ok : CalmOk Try.prog k36 := by
 refine R.calmspec Try.func36 nm36 rfl ?_
 rintro r hok q _ args hargs
 match args, hargs with
 | [], hargs =>
 refine ⟨envC [k16, k32, k34, k81] false [(44, 9)], 6, envC_ok (css_cons ⟨fun _ => k16_ok, fun h => (by cases h)⟩ (css_cons ⟨fun h => (by cases h), fun _ => k32_ok⟩ (css_cons ⟨fun h => (by cases h), fun _ => k34_ok⟩ (css_cons ⟨fun _ => k81_ok, fun h => (by cases h)⟩ (css_nil))))), rfl, (by intro x hx; cases hx), ?_⟩
 have H : Gives (g36 ) (fun a => a = r) := ⟨r, hok, rfl⟩
 unfold g36 at H
 clear hok
 refine And.intro (fun h => absurd h (by decide)) (fun _ => ?_)
 refine And.intro (fun h => absurd h (by decide)) (fun _ => ?_)
 refine And.intro (fun h => absurd h (by decide)) (fun _ => ?_)
 refine And.intro (fun h => absurd h (by decide)) (fun _ => ?_)
 obtain ⟨v1, hv2, H⟩ := call_st H
 refine ⟨(((20, [], 0, 0), ([] : List (List ByteArray)), ([] : List ((List ByteArray) × Int)), false, false, 0, 0), (lit [97, 98, 32, 99, 100]), v1, (([] : List ((Option Addr × Nat) × List ByteArray)), ([] : List (((Option Addr × Nat) × List ByteArray) × Int)))), ⟨hv2, (show List.map e25 [] = [] from rfl), pin_nil, (show List.map e105 [] = [] from rfl), pin_nil⟩, ⟨(rdsOk_app.2 ⟨(rdsOk_app.2 ⟨trivial, P25.rds pin_nil⟩), P105.rds pin_nil⟩)⟩, ?_⟩
 iterate 2 refine And.intro ⟨rfl⟩ ?_
 iterate 11 refine mo1E12 ?_
 intro q3 g4 hq5 hok6 hrd7
 obtain ⟨X10, X14⟩ := g4
 obtain ⟨hE11, hC8, hE15, hC12⟩ := hok6
 obtain ⟨hrd7, hF13⟩ := rdsOk_app.1 hrd7
 obtain ⟨hrd7, hF9⟩ := rdsOk_app.1 hrd7
 try dsimp only at hC8 hF9 hE11 hC12 hF13 hE15
 obtain ⟨v16, hv17, H⟩ := call_st H
 refine ⟨(((v1.2.1.1, v1.2.1.2.1, v1.2.1.2.2.1, v1.2.1.2.2.2), v1.2.2.1, v1.2.2.2.1, v1.2.2.2.2.1, v1.2.2.2.2.2.1, v1.2.2.2.2.2.2.1, v1.2.2.2.2.2.2.2), 12, v16, (X10, X14)), ⟨hv17, hE11, P25.cap (P25.of hF9 hC8), hE15, P105.cap (P105.of hF13 hC12)⟩, ⟨(rdsOk_app.2 ⟨(rdsOk_app.2 ⟨trivial, P25.rds (P25.of hF9 hC8)⟩), P105.rds (P105.of hF13 hC12)⟩)⟩, ?_⟩
 iterate 2 refine And.intro ⟨rfl⟩ ?_
 iterate 11 refine mo1E12 ?_
 intro q18 g19 hq20 hok21 hrd22
 obtain ⟨X25, X29⟩ := g19
 obtain ⟨hE26, hC23, hE30, hC27⟩ := hok21
 obtain ⟨hrd22, hF28⟩ := rdsOk_app.1 hrd22
 obtain ⟨hrd22, hF24⟩ := rdsOk_app.1 hrd22
 try dsimp only at hC23 hF24 hE26 hC27 hF28 hE30
 obtain ⟨v31, hv32, H⟩ := call_st H
 refine ⟨(((v16.2.1.1, v16.2.1.2.1, v16.2.1.2.2.1, v16.2.1.2.2.2), v16.2.2.1, v16.2.2.2.1, v16.2.2.2.2.1, v16.2.2.2.2.2.1, v16.2.2.2.2.2.2.1, v16.2.2.2.2.2.2.2), 12, v31, (X25, X29)), ⟨hv32, hE26, P25.cap (P25.of hF24 hC23), hE30, P105.cap (P105.of hF28 hC27)⟩, ⟨(rdsOk_app.2 ⟨(rdsOk_app.2 ⟨trivial, P25.rds (P25.of hF24 hC23)⟩), P105.rds (P105.of hF28 hC27)⟩)⟩, ?_⟩
 iterate 2 refine And.intro ⟨rfl⟩ ?_
 iterate 11 refine mo1E12 ?_
 intro q33 g34 hq35 hok36 hrd37
 obtain ⟨X40, X44⟩ := g34
 obtain ⟨hE41, hC38, hE45, hC42⟩ := hok36
 obtain ⟨hrd37, hF43⟩ := rdsOk_app.1 hrd37
 obtain ⟨hrd37, hF39⟩ := rdsOk_app.1 hrd37
 try dsimp only at hC38 hF39 hE41 hC42 hF43 hE45
 obtain ⟨v48, hv49, H⟩ := call_st H
 refine ⟨((v31.2.1.1, v31.2.1.2.1, v31.2.1.2.2.1, v31.2.1.2.2.2), v48), ⟨hv49⟩, ⟨trivial⟩, ?_⟩
 iterate 4 refine mo1E12 ?_
 obtain ⟨v50, hv51, H⟩ := call_st H
 refine ⟨(((v31.2.1.1, v31.2.1.2.1, v31.2.1.2.2.1, v31.2.1.2.2.2), v31.2.2.1, v31.2.2.2.1, v31.2.2.2.2.1, v31.2.2.2.2.2.1, v31.2.2.2.2.2.2.1, v31.2.2.2.2.2.2.2), 13, v50, (X40, X44)), ⟨hv51, hE41, P25.cap (P25.of hF39 hC38), hE45, P105.cap (P105.of hF43 hC42)⟩, ⟨(rdsOk_app.2 ⟨(rdsOk_app.2 ⟨trivial, P25.rds (P25.of hF39 hC38)⟩), P105.rds (P105.of hF43 hC42)⟩)⟩, ?_⟩
 iterate 2 refine And.intro ⟨rfl⟩ ?_
 iterate 11 refine mo1E12 ?_
 intro q52 g53 hq54 hok55 hrd56
 obtain ⟨X59, X63⟩ := g53
 obtain ⟨hE60, hC57, hE64, hC61⟩ := hok55
 obtain ⟨hrd56, hF62⟩ := rdsOk_app.1 hrd56
 obtain ⟨hrd56, hF58⟩ := rdsOk_app.1 hrd56
 try dsimp only at hC57 hF58 hE60 hC61 hF62 hE64
 refine R.cut_fam H 145 [] [] (fun v254 => [(3, .own 145)]) (fun v254 => [(145, .arr 9 1 (v254.length) (es (v254)))]) [(26, .cells 43 [.v (.int .i64 (v50.2.1.1)), .own 113, .v (.int .i64 (v50.2.1.2.2.1)), .v (.int .i64 (v50.2.1.2.2.2))]), (33, .cells 73 [.lp 26 0, .own 111, .own 112, bS v50.2.2.2.2.1, bS v50.2.2.2.2.2.1, .v (.int .i64 (v50.2.2.2.2.2.2.1)), .v (.int .i64 (v50.2.2.2.2.2.2.2))]), (113, .arr 9 1 (v50.2.1.2.1.length) (es (v50.2.1.2.1))), (111, .arr 25 1 (v50.2.2.1.length) (ec c25 (X59))), (112, .arr 105 2 (v50.2.2.2.1.length) (ec c105 (X63)))] 1 (fun H => ?_)
 refine And.intro ?_ ?_
 ·refine R.loop_fam (bind_st H) [12, 13] [(3, 0, 9, 1)] (fun _ s258 => [(3, .own 140), (14, .v (.int .i64 (s258.2)))]) (fun _ s258 => [(140, .arr 9 1 (s258.1.length) (es (s258.1)))]) 1 (fun n312 H => ?_)
  refine ⟨(n312, _), ⟨H⟩, ⟨trivial⟩, ?_⟩
  repeat refine mo1E12 ?_
  rintro ⟨m0, s258⟩ H _
  obtain ⟨m259, hm0, H⟩ := IG_succ H
  dsimp only at hm0
  subst hm0
  try dsimp only at H
  refine if_st H (fun h295 H => ?_) (fun h295 H => ?_)
  ·refine ob_ck H fun h296 H => ?_
   have hel297 : e25 (X59.getD s258.2.toNat default) = v50.2.2.1.getD s258.2.toNat default := er_get hE60 (by first | exact tn h296 | (have := tn h296; simp at this ⊢; omega) | (have := tn h296; simp; omega))
   have hr298 : (X59.getD s258.2.toNat default).2 = (v50.2.2.1.getD s258.2.toNat default) := congrArg (fun z => z) hel297
   obtain ⟨A299, c300, hA301⟩ : ∃ A c, (A = (X59.getD s258.2.toNat default).1.1 ∧ c = (X59.getD s258.2.toNat default).1.2) := ⟨_, _, rfl, rfl⟩
   have hR302 := rd_eq (f := es) hr298 ((P25.of hF58 hC57) _ (getD_mem (Nat.lt_of_lt_of_eq (by first | exact tn h296 | (have := tn h296; simp at this ⊢; omega) | (have := tn h296; simp; omega)) (er_len hE60).symm))).1
   rw [← hA301.1] at hR302
   have hc303 : (v50.2.2.1.getD s258.2.toNat default).length ≤ c300 := by rw [hA301.2]; exact Nat.le_trans (Nat.le_of_eq (congrArg List.length hr298.symm)) ((P25.of hF58 hC57) _ (getD_mem (Nat.lt_of_lt_of_eq (by first | exact tn h296 | (have := tn h296; simp at this ⊢; omega) | (have := tn h296; simp; omega)) (er_len hE60).symm))).2
   refine ld_sl (A := A299) (n := (v50.2.2.1.getD s258.2.toNat default).length) (c := c300) (by rw [hA301.1, hA301.2]; exact (own_get (ys := ec c25 X59) (by first | rfl | simp [ei, eb, es, ec, c25, c105, c135]) ((ec_get1 (i := s258.2.toNat) c25_len (Nat.lt_of_lt_of_eq (by first | exact tn h296 | (have := tn h296; simp at this ⊢; omega) | (have := tn h296; simp; omega)) (er_len hE60).symm)).trans rfl)).trans (congrArg (fun z => some (Value.slice (X59.getD s258.2.toNat default).1.1 z (X59.getD s258.2.toNat default).1.2)) (congrArg List.length hr298))) ?_
   obtain ⟨v304, hv305, H⟩ := call_st H
   refine ⟨((v50.2.2.1.getD s258.2.toNat default), (lit []), v304), ⟨hv305⟩, ⟨trivial⟩, ?_⟩
   refine And.intro ⟨rfl, hc303, es_len.trans ((show _ = _ from rfl).trans (Nat.mul_one _).symm), hR302⟩ ?_
   refine And.intro ⟨rfl⟩ ?_
   refine ob_app (by decide) (by first | exact es_one | ((repeat (refine List.forall_mem_cons.2 ⟨rfl, ?_⟩)); intro y hy; cases hy; done) | (intro y hy; simp [ei, eb, es, ec, c25, c105, c135] at hy; (first | (rcases hy with rfl | hy) | subst hy | skip); all_goals first | rfl | simp_all [Value.oneCell'])) H fun h306 H => ?_
   intro n307 zs309 hn308 hz310
   obtain rfl : n307 = (s258.1 ++ [v304]).length := hn308.trans (by first | exact List.length_append.symm | (simp; done) | (simp; omega))
   obtain rfl : zs309 = es (s258.1 ++ [v304]) := by first | exact hz310.trans (es_app (xs := s258.1) (ys := ([v304]))).symm | (rw [hz310, es_vw]; first | exact es_app.symm | exact (es_app (xs := s258.1)).symm) | (rw [hz310]; simp [ei, eb, es, ec, c25, c105, c135])
   refine ob_ck H fun h311 H => ?_
   replace H := some_st H
   refine ⟨(m259, ((s258.1 ++ [v304]), s258.2 + 1)), ⟨H, Nat.lt_succ_self _⟩, ⟨trivial⟩, ⟨rfl⟩, ?_⟩
   repeat refine mo1E12 ?_
   first | exact trivial | exact rfl
  ·replace H := some_st H
   dsimp only [stp, sm] at H
   refine ⟨s258.1, ⟨H⟩, ⟨rfl⟩, ?_⟩
   repeat refine mo1E12 ?_
   first | exact trivial | exact rfl
 ·intro v254 H
  refine if_st H (fun h313 H => ?_) (fun h313 H => ?_)
  ·refine if_st H (fun h314 H => ?_) (fun h314 H => ?_)
   ·refine if_st H (fun h315 H => ?_) (fun h315 H => ?_)
    ·refine if_st H (fun h316 H => ?_) (fun h316 H => ?_)
     ·refine if_st H (fun h317 H => ?_) (fun h317 H => ?_)
      ·obtain ⟨v318, hv319, H⟩ := call_st H
       refine ⟨((v50.2.1.1, v50.2.1.2.1, v50.2.1.2.2.1, v50.2.1.2.2.2), v318), ⟨hv319⟩, ⟨trivial⟩, ?_⟩
       iterate 4 refine mo1E12 ?_
       refine if_st H (fun h320 H => ?_) (fun h320 H => ?_)
       ·refine if_st H (fun h321 H => ?_) (fun h321 H => ?_)
        ·refine ob_ck H fun h322 H => ?_
         refine ld_str (e := v254.getD (0 : Int).toNat default) (own_get (ys := es v254) (by first | rfl | simp [ei, eb, es, ec, c25, c105, c135]) (es_get (l := v254) (by first | exact tn h322 | (have := tn h322; simp at this ⊢; omega) | (have := tn h322; simp; omega)))) ?_
         refine if_st H (fun h323 H => ?_) (fun h323 H => ?_)
         ·obtain ⟨v324, hv325, H⟩ := call_st H
          refine ⟨(((v50.2.1.1, v50.2.1.2.1, v50.2.1.2.2.1, v50.2.1.2.2.2), v50.2.2.1, v50.2.2.2.1, v50.2.2.2.2.1, v50.2.2.2.2.2.1, v50.2.2.2.2.2.2.1, v50.2.2.2.2.2.2.2), 14, v324, (X59, X63)), ⟨hv325, hE60, P25.cap (P25.of hF58 hC57), hE64, P105.cap (P105.of hF62 hC61)⟩, ⟨(rdsOk_app.2 ⟨(rdsOk_app.2 ⟨trivial, P25.rds (P25.of hF58 hC57)⟩), P105.rds (P105.of hF62 hC61)⟩)⟩, ?_⟩
          iterate 2 refine And.intro ⟨rfl⟩ ?_
          iterate 11 refine mo1E12 ?_
          intro q326 g327 hq328 hok329 hrd330
          obtain ⟨X333, X337⟩ := g327
          obtain ⟨hE334, hC331, hE338, hC335⟩ := hok329
          obtain ⟨hrd330, hF336⟩ := rdsOk_app.1 hrd330
          obtain ⟨hrd330, hF332⟩ := rdsOk_app.1 hrd330
          try dsimp only at hC331 hF332 hE334 hC335 hF336 hE338
          refine if_st H (fun h339 H => ?_) (fun h339 H => ?_)
          ·have hfin := fin_st H
           repeat refine mf1E12 ?_
           first | exact trivial | exact rfl
          ·have hfin := fin_st H
           repeat refine mf1E12 ?_
           first | exact trivial | exact rfl
         ·have hfin := fin_st H
          repeat refine mf1E12 ?_
          first | exact trivial | exact rfl
        ·have hfin := fin_st H
         repeat refine mf1E12 ?_
         first | exact trivial | exact rfl
       ·have hfin := fin_st H
        repeat refine mf1E12 ?_
        first | exact trivial | exact rfl
      ·have hfin := fin_st H
       repeat refine mf1E12 ?_
       first | exact trivial | exact rfl
     ·have hfin := fin_st H
      repeat refine mf1E12 ?_
      first | exact trivial | exact rfl
    ·have hfin := fin_st H
     repeat refine mf1E12 ?_
     first | exact trivial | exact rfl
   ·have hfin := fin_st H
    repeat refine mf1E12 ?_
    first | exact trivial | exact rfl
  ·have hfin := fin_st H
   repeat refine mf1E12 ?_
   first | exact trivial | exact rfl
end Go.Proofs.Ytenjkphlbdhaiaa
end
section
namespace Go.Proofs.Ytenjkphlbdhaiaa
open Go Go.Eng
noncomputable def e47 (n : Nat) (a0 : (Int × List ByteArray × Int × Int)) : Option (Bool) :=
  some (decide (0 < a0.1))
set_option maxHeartbeats 4000000 in
theorem e47_le (n : Nat) (a0 : (Int × List ByteArray × Int × Int)) : Le (e47 n a0) (g47 a0) := by
  unfold e47 g47
  repeat' with_reducible first | refine le_bind ?_ (fun _ => ?_) | refine le_ck ?_ | refine le_if ?_ ?_ | refine le_sm (fun _ => ?_) (fun _ => ?_) | refine le_jn (fun _ _ _ => ?_) (fun _ => ?_) | refine le_loop (fun _ => ?_) | exact le_refl | apply_assumption
noncomputable def e48 (n : Nat) (a0 : (Int × List ByteArray × Int × Int)) : Option (Int) :=
  ck (inR .i64 (a0.2.2.2 - a0.2.2.1)) <|
  ck (inR .i64 (((a0.2.1.length : Nat) : Int) - (a0.2.2.2 - a0.2.2.1))) <|
  some (((a0.2.1.length : Nat) : Int) - (a0.2.2.2 - a0.2.2.1))
set_option maxHeartbeats 4000000 in
theorem e48_le (n : Nat) (a0 : (Int × List ByteArray × Int × Int)) : Le (e48 n a0) (g48 a0) := by
  unfold e48 g48
  repeat' with_reducible first | refine le_bind ?_ (fun _ => ?_) | refine le_ck ?_ | refine le_if ?_ ?_ | refine le_sm (fun _ => ?_) (fun _ => ?_) | refine le_jn (fun _ _ _ => ?_) (fun _ => ?_) | refine le_loop (fun _ => ?_) | exact le_refl | apply_assumption
noncomputable def e11 (n : Nat) (a0 : (Int × List ByteArray × Int × Int)) : Option (List ByteArray) :=
  (e47 n a0).bind fun v4 =>
  if ¬ (v4 = true) then
    some ([] : List ByteArray)
  else
    (
      (e48 n a0).bind fun v7 =>
      ck (0 ≤ v7 ∧ v7 ≤ v7 ∧ v7 ≤ 9223372036854775807 ∧ v7 * ((16 : Nat) : Int) ≤ 140737488355328) <|
      ck (0 ≤ (0 : Int) ∧ (0 : Int) ≤ a0.2.2.1 ∧ a0.2.2.1 ≤ ((a0.2.1.length : Nat) : Int)) <|
      ck (0 ≤ (((min (((a0.2.1.drop (0 : Int).toNat).take (a0.2.2.1.toNat - (0 : Int).toNat)).length) v7.toNat) : Nat) : Int) ∧ (((min (((a0.2.1.drop (0 : Int).toNat).take (a0.2.2.1.toNat - (0 : Int).toNat)).length) v7.toNat) : Nat) : Int) ≤ ((v7.toNat : Nat) : Int) ∧ ((v7.toNat : Nat) : Int) ≤ ((v7.toNat : Nat) : Int)) <|
      ck (0 ≤ a0.2.2.2 ∧ a0.2.2.2 ≤ ((a0.2.1.length : Nat) : Int) ∧ ((a0.2.1.length : Nat) : Int) ≤ ((a0.2.1.length : Nat) : Int)) <|
      some (cpy (cpy (List.replicate v7.toNat (⟨#[]⟩ : ByteArray)) 0 ((a0.2.1.drop (0 : Int).toNat).take (a0.2.2.1.toNat - (0 : Int).toNat)) (min (((a0.2.1.drop (0 : Int).toNat).take (a0.2.2.1.toNat - (0 : Int).toNat)).length) v7.toNat)) ((((min (((a0.2.1.drop (0 : Int).toNat).take (a0.2.2.1.toNat - (0 : Int).toNat)).length) v7.toNat) : Nat) : Int).toNat) ((a0.2.1.drop a0.2.2.2.toNat).take (((a0.2.1.length : Nat) : Int).toNat - a0.2.2.2.toNat)) (min (((a0.2.1.drop a0.2.2.2.toNat).take (((a0.2.1.length : Nat) : Int).toNat - a0.2.2.2.toNat)).length) (((v7.toNat : Nat) : Int).toNat - (((min (((a0.2.1.drop (0 : Int).toNat).take (a0.2.2.1.toNat - (0 : Int).toNat)).length) v7.toNat) : Nat) : Int).toNat)))
    )
set_option maxHeartbeats 4000000 in
theorem e11_le (n : Nat) (a0 : (Int × List ByteArray × Int × Int)) : Le (e11 n a0) (g11 a0) := by
  unfold e11 g11
  repeat' with_reducible first | exact e47_le _ _ | exact e48_le _ _ | refine le_bind ?_ (fun _ => ?_) | refine le_ck ?_ | refine le_if ?_ ?_ | refine le_sm (fun _ => ?_) (fun _ => ?_) | refine le_jn (fun _ _ _ => ?_) (fun _ => ?_) | refine le_loop (fun _ => ?_) | exact le_refl | apply_assumption
noncomputable def e92 (n : Nat) (a0 : List Int) : Option (List Int) := some a0
set_option maxHeartbeats 4000000 in
theorem e92_le (n : Nat) (a0 : List Int) : Le (e92 n a0) (g92 a0) := by
  unfold e92 g92
  repeat' with_reducible first | refine le_bind ?_ (fun _ => ?_) | refine le_ck ?_ | refine le_if ?_ ?_ | refine le_sm (fun _ => ?_) (fun _ => ?_) | refine le_jn (fun _ _ _ => ?_) (fun _ => ?_) | refine le_loop (fun _ => ?_) | exact le_refl | apply_assumption
noncomputable def e54 (n : Nat) (a0 : List Int) (a1 : ByteArray) : Option (Int × List Int) :=
  (e92 n a0).bind fun v1 =>
  ck (v1.length + a1.size ≤ 140737488355328) <|
  some ((a1.size : Int), (v1 ++ bytesOf a1))
set_option maxHeartbeats 4000000 in
theorem e54_le (n : Nat) (a0 : List Int) (a1 : ByteArray) : Le (e54 n a0 a1) (g54 a0 a1) := by
  unfold e54 g54
  repeat' with_reducible first | exact e92_le _ _ | refine le_bind ?_ (fun _ => ?_) | refine le_ck ?_ | refine le_if ?_ ?_ | refine le_sm (fun _ => ?_) (fun _ => ?_) | refine le_jn (fun _ _ _ => ?_) (fun _ => ?_) | refine le_loop (fun _ => ?_) | exact le_refl | apply_assumption
noncomputable def e55 (n : Nat) (a0 : List Int) : Option ByteArray := ck (isBytes a0) <| some ⟨(a0.map fun n => UInt8.ofNat n.toNat).toArray⟩
set_option maxHeartbeats 4000000 in
theorem e55_le (n : Nat) (a0 : List Int) : Le (e55 n a0) (g55 a0) := by
  unfold e55 g55
  repeat' with_reducible first | refine le_bind ?_ (fun _ => ?_) | refine le_ck ?_ | refine le_if ?_ ?_ | refine le_sm (fun _ => ?_) (fun _ => ?_) | refine le_jn (fun _ _ _ => ?_) (fun _ => ?_) | refine le_loop (fun _ => ?_) | exact le_refl | apply_assumption
noncomputable def e16 (n : Nat) (a0 : (Int × List ByteArray × Int × Int)) : Option (ByteArray) :=
  jn (α := _) (β := List Int) (fun k36 =>
      (e11 n a0).bind fun v37 =>
      (itN n (σ := List Int × Int) (ρ := List Int) (fun s41 =>
          if s41.2 < ((v37.length : Nat) : Int) then
            (
              ck (0 ≤ s41.2 ∧ s41.2 < ((v37.length : Nat) : Int)) <|
              (e54 n s41.1 (v37.getD s41.2.toNat default)).bind fun v56 =>
              ck (inR .i64 (s41.2 + 1)) <|
              some (.go (v56.2, s41.2 + 1))
            )
          else
            some (.out s41.1)
        ) ([], 0)).bind fun o53 =>
        k36 o53
  ) (fun v35 =>
    (e55 n v35).bind fun v60 =>
    some v60
  )
set_option maxHeartbeats 4000000 in
theorem e16_le (n : Nat) (a0 : (Int × List ByteArray × Int × Int)) : Le (e16 n a0) (g16 a0) := by
  unfold e16 g16
  repeat' with_reducible first | exact e11_le _ _ | exact e54_le _ _ _ | exact e55_le _ _ | refine le_bind ?_ (fun _ => ?_) | refine le_ck ?_ | refine le_if ?_ ?_ | refine le_sm (fun _ => ?_) (fun _ => ?_) | refine le_jn (fun _ _ _ => ?_) (fun _ => ?_) | refine le_loop (fun _ => ?_) | exact le_refl | apply_assumption
noncomputable def e13 (n : Nat) (a0 : (Int × List ByteArray × Int × Int)) : Option (Int) :=
  (e47 n a0).bind fun v8 =>
  if ¬ (v8 = true) then
    some 0
  else
    some a0.2.2.1
set_option maxHeartbeats 4000000 in
theorem e13_le (n : Nat) (a0 : (Int × List ByteArray × Int × Int)) : Le (e13 n a0) (g13 a0) := by
  unfold e13 g13
  repeat' with_reducible first | exact e47_le _ _ | refine le_bind ?_ (fun _ => ?_) | refine le_ck ?_ | refine le_if ?_ ?_ | refine le_sm (fun _ => ?_) (fun _ => ?_) | refine le_jn (fun _ _ _ => ?_) (fun _ => ?_) | refine le_loop (fun _ => ?_) | exact le_refl | apply_assumption
noncomputable def e18 (n : Nat) (a0 : (Int × List ByteArray × Int × Int)) : Option (Int) :=
  (e47 n a0).bind fun v14 =>
  if ¬ (v14 = true) then
    some 0
  else
    (
      (e48 n a0).bind fun v17 =>
      ck (inR .i64 (a0.1 - v17)) <|
      some (a0.1 - v17)
    )
set_option maxHeartbeats 4000000 in
theorem e18_le (n : Nat) (a0 : (Int × List ByteArray × Int × Int)) : Le (e18 n a0) (g18 a0) := by
  unfold e18 g18
  repeat' with_reducible first | exact e47_le _ _ | exact e48_le _ _ | refine le_bind ?_ (fun _ => ?_) | refine le_ck ?_ | refine le_if ?_ ?_ | refine le_sm (fun _ => ?_) (fun _ => ?_) | refine le_jn (fun _ _ _ => ?_) (fun _ => ?_) | refine le_loop (fun _ => ?_) | exact le_refl | apply_assumption
noncomputable def e98 (n : Nat) (a0 : Int) : Option (Bool) :=
  if 0 ≤ a0 then
    (
      if a0 ≤ 31 then
        some true
      else
        (
          if 127 ≤ a0 then
            some (decide (a0 ≤ 159))
          else
            some false
        )
    )
  else
    (
      if 127 ≤ a0 then
        some (decide (a0 ≤ 159))
      else
        some false
    )
set_option maxHeartbeats 4000000 in
theorem e98_le (n : Nat) (a0 : Int) : Le (e98 n a0) (g98 a0) := by
  unfold e98 g98
  repeat' with_reducible first | refine le_bind ?_ (fun _ => ?_) | refine le_ck ?_ | refine le_if ?_ ?_ | refine le_sm (fun _ => ?_) (fun _ => ?_) | refine le_jn (fun _ _ _ => ?_) (fun _ => ?_) | refine le_loop (fun _ => ?_) | exact le_refl | apply_assumption
noncomputable def e100 (n : Nat) (a0 : (List ByteArray × List Int × Bool)) : Option ((List ByteArray × List Int × Bool)) :=
  if a0.2.2 = true then
    (
      ck (isBytes a0.2.1) <|
      ck ((a0.1.length + 1) * 16 ≤ 140737488355328) <|
      ck (0 ≤ (0 : Int) ∧ (0 : Int) ≤ (0 : Int) ∧ (0 : Int) ≤ ((a0.2.1.length : Nat) : Int)) <|
      some ((a0.1 ++ [strOf a0.2.1]), (a0.2.1.take ((0 : Int).toNat - (0 : Int).toNat)), false)
    )
  else
    (
      ck (0 ≤ (0 : Int) ∧ (0 : Int) ≤ (0 : Int) ∧ (0 : Int) ≤ ((a0.2.1.length : Nat) : Int)) <|
      some (a0.1, (a0.2.1.take ((0 : Int).toNat - (0 : Int).toNat)), false)
    )
set_option maxHeartbeats 4000000 in
theorem e100_le (n : Nat) (a0 : (List ByteArray × List Int × Bool)) : Le (e100 n a0) (g100 a0) := by
  unfold e100 g100
  repeat' with_reducible first | refine le_bind ?_ (fun _ => ?_) | refine le_ck ?_ | refine le_if ?_ ?_ | refine le_sm (fun _ => ?_) (fun _ => ?_) | refine le_jn (fun _ _ _ => ?_) (fun _ => ?_) | refine le_loop (fun _ => ?_) | exact le_refl | apply_assumption
noncomputable def e114 (n : Nat) (a0 : Int) : Option (Bool) :=
  if 0 ≤ a0 then
    (
      if a0 ≤ 1114111 then
        (
          if a0 < 55296 then
            some true
          else
            some (decide (57343 < a0))
        )
      else
        some false
    )
  else
    some false
set_option maxHeartbeats 4000000 in
theorem e114_le (n : Nat) (a0 : Int) : Le (e114 n a0) (g114 a0) := by
  unfold e114 g114
  repeat' with_reducible first | refine le_bind ?_ (fun _ => ?_) | refine le_ck ?_ | refine le_if ?_ ?_ | refine le_sm (fun _ => ?_) (fun _ => ?_) | refine le_jn (fun _ _ _ => ?_) (fun _ => ?_) | refine le_loop (fun _ => ?_) | exact le_refl | apply_assumption
noncomputable def e132 (n : Nat) : Option (List Int) :=
  some ([768, 879, 1155, 1161, 1425, 1469, 1471, 1471, 1473, 1474, 1476, 1477, 1479, 1479, 1552, 1562, 1611, 1631, 1648, 1648, 1750, 1756, 1759, 1764, 1767, 1768, 1770, 1773, 3633, 3633, 3636, 3642, 3655, 3662, 6832, 6911, 7616, 7679, 8203, 8207, 8288, 8292, 8400, 8432, 12330, 12333, 12441, 12442, 65024, 65039, 65056, 65071, 65279, 65279, 917760, 917999])
set_option maxHeartbeats 4000000 in
theorem e132_le (n : Nat)  : Le (e132 n ) (g132 ) := by
  unfold e132 g132
  repeat' with_reducible first | refine le_bind ?_ (fun _ => ?_) | refine le_ck ?_ | refine le_if ?_ ?_ | refine le_sm (fun _ => ?_) (fun _ => ?_) | refine le_jn (fun _ _ _ => ?_) (fun _ => ?_) | refine le_loop (fun _ => ?_) | exact le_refl | apply_assumption
noncomputable def e115 (n : Nat) (a0 : Int) : Option (Bool) :=
  (e132 n).bind fun v628 =>
  jn (α := _) (β := Unit) (fun k671 =>
      (itN n (σ := Int) (ρ := (Bool) ⊕ (Unit)) (fun s674 =>
          ck (inR .i64 (s674 + 1)) <|
          if (s674 + 1) < ((v628.length : Nat) : Int) then
            (
              ck (0 ≤ s674 ∧ s674 < ((v628.length : Nat) : Int)) <|
              ck (inR .i64 (s674 + 1)) <|
              ck (0 ≤ s674 + 1 ∧ s674 + 1 < ((v628.length : Nat) : Int)) <|
              if a0 < (v628.getD s674.toNat 0) then
                some (.out (.inl (false)))
              else
                (
                  if a0 ≤ (v628.getD (s674 + 1).toNat 0) then
                    some (.out (.inl (true)))
                  else
                    (
                      ck (inR .i64 (s674 + 2)) <|
                      some (.go (s674 + 2))
                    )
                )
            )
          else
            some (.out (.inr (())))
        ) 0).bind fun o692 =>
      sm o692 (fun o701 =>
          some o701
        ) (fun o702 =>
          k671 ()
        )
  ) (fun v670 =>
    some false
  )
set_option maxHeartbeats 4000000 in
theorem e115_le (n : Nat) (a0 : Int) : Le (e115 n a0) (g115 a0) := by
  unfold e115 g115
  repeat' with_reducible first | exact e132_le _ | refine le_bind ?_ (fun _ => ?_) | refine le_ck ?_ | refine le_if ?_ ?_ | refine le_sm (fun _ => ?_) (fun _ => ?_) | refine le_jn (fun _ _ _ => ?_) (fun _ => ?_) | refine le_loop (fun _ => ?_) | exact le_refl | apply_assumption
noncomputable def e127 (n : Nat) : Option (List Int) :=
  some ([4352, 4447, 8986, 8987, 9001, 9002, 9193, 9196, 9200, 9200, 9203, 9203, 9725, 9726, 9748, 9749, 9800, 9811, 9855, 9855, 9875, 9875, 9889, 9889, 9898, 9899, 9917, 9918, 9924, 9925, 9934, 9934, 9940, 9940, 9962, 9962, 9970, 9971, 9973, 9973, 9978, 9978, 9981, 9981, 9989, 9989, 9994, 9995, 10024, 10024, 10060, 10060, 10062, 10062, 10067, 10069, 10071, 10071, 10133, 10135, 10160, 10160, 10175, 10175, 11035, 11036, 11088, 11088, 11093, 11093, 11904, 12350, 12353, 19903, 19968, 42191, 43360, 43391, 44032, 55203, 63744, 64255, 65040, 65049, 65072, 65135, 65281, 65376, 65504, 65510, 127744, 128591, 128640, 128767, 129280, 129535, 129648, 129791, 131072, 196605, 196608, 262141])
set_option maxHeartbeats 4000000 in
theorem e127_le (n : Nat)  : Le (e127 n ) (g127 ) := by
  unfold e127 g127
  repeat' with_reducible first | refine le_bind ?_ (fun _ => ?_) | refine le_ck ?_ | refine le_if ?_ ?_ | refine le_sm (fun _ => ?_) (fun _ => ?_) | refine le_jn (fun _ _ _ => ?_) (fun _ => ?_) | refine le_loop (fun _ => ?_) | exact le_refl | apply_assumption
noncomputable def e96 (n : Nat) (a0 : Int) : Option (Int) :=
  jn (α := _) (β := Bool) (fun k885 =>
      (e114 n a0).bind fun v886 =>
      if ¬ (v886 = true) then
        k885 true
      else
        (
          (e98 n a0).bind fun v889 =>
          if v889 = true then
            k885 true
          else
            (
              (e115 n a0).bind fun v892 =>
              k885 v892
            )
        )
  ) (fun v884 =>
    if v884 = true then
      some 0
    else
      (
        (e127 n).bind fun v895 =>
        jn (α := _) (β := Unit) (fun k930 =>
            (itN n (σ := Int) (ρ := (Bool) ⊕ (Unit)) (fun s933 =>
                ck (inR .i64 (s933 + 1)) <|
                if (s933 + 1) < ((v895.length : Nat) : Int) then
                  (
                    ck (0 ≤ s933 ∧ s933 < ((v895.length : Nat) : Int)) <|
                    ck (inR .i64 (s933 + 1)) <|
                    ck (0 ≤ s933 + 1 ∧ s933 + 1 < ((v895.length : Nat) : Int)) <|
                    if a0 < (v895.getD s933.toNat 0) then
                      some (.out (.inl (false)))
                    else
                      (
                        if a0 ≤ (v895.getD (s933 + 1).toNat 0) then
                          some (.out (.inl (true)))
                        else
                          (
                            ck (inR .i64 (s933 + 2)) <|
                            some (.go (s933 + 2))
                          )
                      )
                  )
                else
                  some (.out (.inr (())))
              ) 0).bind fun o951 =>
            sm o951 (fun o960 =>
                if o960 = true then
                  some 2
                else
                  some 1
              ) (fun o962 =>
                k930 ()
              )
        ) (fun v929 =>
          some 1
        )
      )
  )
set_option maxHeartbeats 4000000 in
theorem e96_le (n : Nat) (a0 : Int) : Le (e96 n a0) (g96 a0) := by
  unfold e96 g96
  repeat' with_reducible first | exact e98_le _ _ | exact e114_le _ _ | exact e115_le _ _ | exact e127_le _ | refine le_bind ?_ (fun _ => ?_) | refine le_ck ?_ | refine le_if ?_ ?_ | refine le_sm (fun _ => ?_) (fun _ => ?_) | refine le_jn (fun _ _ _ => ?_) (fun _ => ?_) | refine le_loop (fun _ => ?_) | exact le_refl | apply_assumption
noncomputable def e118 (n : Nat) (a0 : Int) : Option (Bool) :=
  (e96 n a0).bind fun v975 =>
  if ¬ v975 = 0 then
    some false
  else
    (
      (e98 n a0).bind fun v978 =>
      if v978 = true then
        some false
      else
        (
          if 0 ≤ a0 then
            (
              if a0 ≤ 1114111 then
                (
                  if a0 < 55296 then
                    some true
                  else
                    some (decide (57343 < a0))
                )
              else
                some false
            )
          else
            some false
        )
    )
set_option maxHeartbeats 4000000 in
theorem e118_le (n : Nat) (a0 : Int) : Le (e118 n a0) (g118 a0) := by
  unfold e118 g118
  repeat' with_reducible first | exact e96_le _ _ | exact e98_le _ _ | refine le_bind ?_ (fun _ => ?_) | refine le_ck ?_ | refine le_if ?_ ?_ | refine le_sm (fun _ => ?_) (fun _ => ?_) | refine le_jn (fun _ _ _ => ?_) (fun _ => ?_) | refine le_loop (fun _ => ?_) | exact le_refl | apply_assumption
noncomputable def e128 (n : Nat) (a0 : Int) : Option (Bool) :=
  if 0 ≤ a0 then
    (
      if a0 ≤ 1114111 then
        (
          if a0 < 55296 then
            some true
          else
            some (decide (57343 < a0))
        )
      else
        some false
    )
  else
    some false
set_option maxHeartbeats 4000000 in
theorem e128_le (n : Nat) (a0 : Int) : Le (e128 n a0) (g128 a0) := by
  unfold e128 g128
  repeat' with_reducible first | refine le_bind ?_ (fun _ => ?_) | refine le_ck ?_ | refine le_if ?_ ?_ | refine le_sm (fun _ => ?_) (fun _ => ?_) | refine le_jn (fun _ _ _ => ?_) (fun _ => ?_) | refine le_loop (fun _ => ?_) | exact le_refl | apply_assumption
noncomputable def e129 (n : Nat) (a0 : Int) (a1 : Int) : Option (Int) :=
  ck (0 ≤ a1 ∧ a1 ≤ ((IntKind.bits .i32 : Nat) : Int)) <|
  some (bits .or .u8 128 (bits .and .u8 (IntKind.wrap .u8 (a0 / 2 ^ a1.toNat)) 63))
set_option maxHeartbeats 4000000 in
theorem e129_le (n : Nat) (a0 : Int) (a1 : Int) : Le (e129 n a0 a1) (g129 a0 a1) := by
  unfold e129 g129
  repeat' with_reducible first | refine le_bind ?_ (fun _ => ?_) | refine le_ck ?_ | refine le_if ?_ ?_ | refine le_sm (fun _ => ?_) (fun _ => ?_) | refine le_jn (fun _ _ _ => ?_) (fun _ => ?_) | refine le_loop (fun _ => ?_) | exact le_refl | apply_assumption
noncomputable def e119 (n : Nat) (a0 : Int) : Option (List Int) :=
  jn (α := _) (β := Int) (fun k166 =>
      (e128 n a0).bind fun v167 =>
      if ¬ (v167 = true) then
        k166 65533
      else
        k166 a0
  ) (fun v165 =>
    if v165 < 128 then
      some ([IntKind.wrap .u8 v165])
    else
      (
        if v165 < 2048 then
          (
            (e129 n v165 0).bind fun v181 =>
            some ([bits .or .u8 192 (IntKind.wrap .u8 (v165 / 2 ^ (6 : Int).toNat)), v181])
          )
        else
          (
            if v165 < 65536 then
              (
                (e129 n v165 6).bind fun v184 =>
                (e129 n v165 0).bind fun v186 =>
                some ([bits .or .u8 224 (IntKind.wrap .u8 (v165 / 2 ^ (12 : Int).toNat)), v184, v186])
              )
            else
              (
                (e129 n v165 12).bind fun v188 =>
                (e129 n v165 6).bind fun v190 =>
                (e129 n v165 0).bind fun v192 =>
                some ([bits .or .u8 240 (IntKind.wrap .u8 (v165 / 2 ^ (18 : Int).toNat)), v188, v190, v192])
              )
          )
      )
  )
set_option maxHeartbeats 4000000 in
theorem e119_le (n : Nat) (a0 : Int) : Le (e119 n a0) (g119 a0) := by
  unfold e119 g119
  repeat' with_reducible first | exact e128_le _ _ | exact e129_le _ _ _ | refine le_bind ?_ (fun _ => ?_) | refine le_ck ?_ | refine le_if ?_ ?_ | refine le_sm (fun _ => ?_) (fun _ => ?_) | refine le_jn (fun _ _ _ => ?_) (fun _ => ?_) | refine le_loop (fun _ => ?_) | exact le_refl | apply_assumption
noncomputable def e120 (n : Nat) (a0 : Int) : Option (Bool) :=
  (e96 n a0).bind fun v984 =>
  some (decide (0 < v984))
set_option maxHeartbeats 4000000 in
theorem e120_le (n : Nat) (a0 : Int) : Le (e120 n a0) (g120 a0) := by
  unfold e120 g120
  repeat' with_reducible first | exact e96_le _ _ | refine le_bind ?_ (fun _ => ?_) | refine le_ck ?_ | refine le_if ?_ ?_ | refine le_sm (fun _ => ?_) (fun _ => ?_) | refine le_jn (fun _ _ _ => ?_) (fun _ => ?_) | refine le_loop (fun _ => ?_) | exact le_refl | apply_assumption
noncomputable def e99 (n : Nat) (a0 : (List ByteArray × List Int × Bool)) (a1 : Int) : Option ((List ByteArray × List Int × Bool)) :=
  (e120 n a1).bind fun v41 =>
  if v41 = true then
    (
      (e100 n (a0.1, a0.2.1, a0.2.2)).bind fun v44 =>
      (e119 n a1).bind fun v46 =>
      ck ((v44.2.1.length + v46.length) * 1 ≤ 140737488355328) <|
      some (v44.1, (v44.2.1 ++ v46), true)
    )
  else
    (
      if ¬ (a0.2.2 = true) then
        some (a0.1, a0.2.1, a0.2.2)
      else
        (
          (e118 n a1).bind fun v58 =>
          if ¬ (v58 = true) then
            some (a0.1, a0.2.1, a0.2.2)
          else
            (
              (e119 n a1).bind fun v61 =>
              ck (inR .i64 (((a0.2.1.length : Nat) : Int) + ((v61.length : Nat) : Int))) <|
              if (((a0.2.1.length : Nat) : Int) + ((v61.length : Nat) : Int)) ≤ 64 then
                (
                  ck ((a0.2.1.length + v61.length) * 1 ≤ 140737488355328) <|
                  some (a0.1, (a0.2.1 ++ v61), a0.2.2)
                )
              else
                some (a0.1, a0.2.1, a0.2.2)
            )
        )
    )
set_option maxHeartbeats 4000000 in
theorem e99_le (n : Nat) (a0 : (List ByteArray × List Int × Bool)) (a1 : Int) : Le (e99 n a0 a1) (g99 a0 a1) := by
  unfold e99 g99
  repeat' with_reducible first | exact e100_le _ _ | exact e118_le _ _ | exact e119_le _ _ | exact e120_le _ _ | refine le_bind ?_ (fun _ => ?_) | refine le_ck ?_ | refine le_if ?_ ?_ | refine le_sm (fun _ => ?_) (fun _ => ?_) | refine le_jn (fun _ _ _ => ?_) (fun _ => ?_) | refine le_loop (fun _ => ?_) | exact le_refl | apply_assumption
noncomputable def e134 (n : Nat) (a0 : Int) : Option ((Int × Int × Int × Int)) :=
  if a0 < 128 then
    (
      ck (inR .i32 a0) <|
      some (1, 0, 0, a0)
    )
  else
    (
      if a0 < 194 then
        some (0, 0, 0, 0)
      else
        (
          if a0 < 224 then
            (
              ck (inR .i32 (bits .and .u8 a0 31)) <|
              some (2, 128, 191, bits .and .u8 a0 31)
            )
          else
            (
              if a0 = 224 then
                some (3, 160, 191, 0)
              else
                (
                  if a0 = 237 then
                    some (3, 128, 159, 13)
                  else
                    (
                      if a0 < 240 then
                        (
                          ck (inR .i32 (bits .and .u8 a0 15)) <|
                          some (3, 128, 191, bits .and .u8 a0 15)
                        )
                      else
                        (
                          if a0 = 240 then
                            some (4, 144, 191, 0)
                          else
                            (
                              if a0 < 244 then
                                (
                                  ck (inR .i32 (bits .and .u8 a0 7)) <|
                                  some (4, 128, 191, bits .and .u8 a0 7)
                                )
                              else
                                (
                                  if a0 = 244 then
                                    some (4, 128, 143, 4)
                                  else
                                    some (0, 0, 0, 0)
                                )
                            )
                        )
                    )
                )
            )
        )
    )
set_option maxHeartbeats 4000000 in
theorem e134_le (n : Nat) (a0 : Int) : Le (e134 n a0) (g134 a0) := by
  unfold e134 g134
  repeat' with_reducible first | refine le_bind ?_ (fun _ => ?_) | refine le_ck ?_ | refine le_if ?_ ?_ | refine le_sm (fun _ => ?_) (fun _ => ?_) | refine le_jn (fun _ _ _ => ?_) (fun _ => ?_) | refine le_loop (fun _ => ?_) | exact le_refl | apply_assumption
noncomputable def e131 (n : Nat) (a0 : List Int) : Option (Int × Int × Bool) :=
  if ((a0.length : Nat) : Int) = 0 then
    some (0, 0, true)
  else
    (
      ck (0 ≤ (0 : Int) ∧ 0 < ((a0.length : Nat) : Int)) <|
      (e134 n (a0.getD (0 : Int).toNat 0)).bind fun v34 =>
      if v34.1 = 0 then
        some (65533, 1, false)
      else
        (
          jn (α := _) (β := Int) (fun k107 =>
              (itN n (σ := Int × Int) (ρ := (Int × Int × Bool) ⊕ (Int)) (fun s110 =>
                  if s110.2 < v34.1 then
                    (
                      if ((a0.length : Nat) : Int) ≤ s110.2 then
                        some (.out (.inl ((0, 0, true))))
                      else
                        (
                          jn (α := _) (β := Int × Int) (fun k143 =>
                              if s110.2 = 1 then
                                k143 (v34.2.1, v34.2.2.1)
                              else
                                k143 (128, 191)
                          ) (fun v142 =>
                            ck (0 ≤ s110.2 ∧ s110.2 < ((a0.length : Nat) : Int)) <|
                            if (a0.getD s110.2.toNat 0) < v142.1 then
                              some (.out (.inl ((65533, 1, false))))
                            else
                              (
                                ck (0 ≤ s110.2 ∧ s110.2 < ((a0.length : Nat) : Int)) <|
                                if v142.2 < (a0.getD s110.2.toNat 0) then
                                  some (.out (.inl ((65533, 1, false))))
                                else
                                  (
                                    ck (0 ≤ s110.2 ∧ s110.2 < ((a0.length : Nat) : Int)) <|
                                    ck (inR .i32 (bits .and .u8 (a0.getD s110.2.toNat 0) 63)) <|
                                    ck (inR .i64 (s110.2 + 1)) <|
                                    some (.go (bits .or .i32 (IntKind.wrap .i32 (s110.1 * 2 ^ (6 : Int).toNat)) (bits .and .u8 (a0.getD s110.2.toNat 0) 63), s110.2 + 1))
                                  )
                              )
                          )
                        )
                    )
                  else
                    some (.out (.inr (s110.1)))
                ) (v34.2.2.2, 1)).bind fun o138 =>
              sm o138 (fun o152 =>
                  some (o152.1, o152.2.1, o152.2.2)
                ) (fun o153 =>
                  k107 o153
                )
          ) (fun v106 =>
            some (v106, v34.1, false)
          )
        )
    )
set_option maxHeartbeats 4000000 in
theorem e131_le (n : Nat) (a0 : List Int) : Le (e131 n a0) (g131 a0) := by
  unfold e131 g131
  repeat' with_reducible first | exact e134_le _ _ | refine le_bind ?_ (fun _ => ?_) | refine le_ck ?_ | refine le_if ?_ ?_ | refine le_sm (fun _ => ?_) (fun _ => ?_) | refine le_jn (fun _ _ _ => ?_) (fun _ => ?_) | refine le_loop (fun _ => ?_) | exact le_refl | apply_assumption
noncomputable def e67 (n : Nat) (a0 : ByteArray) : Option (List ByteArray) :=
  jn (α := _) (β := List ByteArray × List Int × Bool) (fun k171 =>
      ck (a0.size ≤ 140737488355328) <|
      (itN n (σ := List ByteArray × List Int × Bool × Int) (ρ := List ByteArray × List Int × Bool) (fun s183 =>
          if s183.2.2.2 < (((bytesOf a0).length : Nat) : Int) then
            (
              ck (0 ≤ s183.2.2.2 ∧ s183.2.2.2 ≤ (((bytesOf a0).length : Nat) : Int) ∧ (((bytesOf a0).length : Nat) : Int) ≤ (((bytesOf a0).length : Nat) : Int)) <|
              (e131 n (((bytesOf a0).drop s183.2.2.2.toNat).take ((((bytesOf a0).length : Nat) : Int).toNat - s183.2.2.2.toNat))).bind fun v235 =>
              if v235.2.2 = true then
                (
                  (e98 n 65533).bind fun v238 =>
                  if v238 = true then
                    (
                      ck (inR .i64 (s183.2.2.2 + 1)) <|
                      some (.go (s183.1, s183.2.1, s183.2.2.1, s183.2.2.2 + 1))
                    )
                  else
                    (
                      (e99 n (s183.1, s183.2.1, s183.2.2.1) 65533).bind fun v242 =>
                      ck (inR .i64 (s183.2.2.2 + 1)) <|
                      some (.go (v242.1, v242.2.1, v242.2.2, s183.2.2.2 + 1))
                    )
                )
              else
                (
                  (e98 n v235.1).bind fun v245 =>
                  if v245 = true then
                    (
                      ck (inR .i64 (s183.2.2.2 + v235.2.1)) <|
                      some (.go (s183.1, s183.2.1, s183.2.2.1, s183.2.2.2 + v235.2.1))
                    )
                  else
                    (
                      (e99 n (s183.1, s183.2.1, s183.2.2.1) v235.1).bind fun v249 =>
                      ck (inR .i64 (s183.2.2.2 + v235.2.1)) <|
                      some (.go (v249.1, v249.2.1, v249.2.2, s183.2.2.2 + v235.2.1))
                    )
                )
            )
          else
            some (.out (s183.1, s183.2.1, s183.2.2.1))
        ) ([], [], false, 0)).bind fun o229 =>
        k171 (o229.1, o229.2.1, o229.2.2)
  ) (fun v170 =>
    (e100 n (v170.1, v170.2.1, v170.2.2)).bind fun v253 =>
    some v253.1
  )
set_option maxHeartbeats 4000000 in
theorem e67_le (n : Nat) (a0 : ByteArray) : Le (e67 n a0) (g67 a0) := by
  unfold e67 g67
  repeat' with_reducible first | exact e98_le _ _ | exact e99_le _ _ _ | exact e100_le _ _ | exact e131_le _ _ | refine le_bind ?_ (fun _ => ?_) | refine le_ck ?_ | refine le_if ?_ ?_ | refine le_sm (fun _ => ?_) (fun _ => ?_) | refine le_jn (fun _ _ _ => ?_) (fun _ => ?_) | refine le_loop (fun _ => ?_) | exact le_refl | apply_assumption
noncomputable def e56 (n : Nat) (a0 : ByteArray) : Option (Bool) :=
  (e67 n a0).bind fun v255 =>
  if ((v255.length : Nat) : Int) = 1 then
    (
      ck (0 ≤ (0 : Int) ∧ 0 < ((v255.length : Nat) : Int)) <|
      some (decide ((v255.getD (0 : Int).toNat default).data.toList = a0.data.toList))
    )
  else
    some false
set_option maxHeartbeats 4000000 in
theorem e56_le (n : Nat) (a0 : ByteArray) : Le (e56 n a0) (g56 a0) := by
  unfold e56 g56
  repeat' with_reducible first | exact e67_le _ _ | refine le_bind ?_ (fun _ => ?_) | refine le_ck ?_ | refine le_if ?_ ?_ | refine le_sm (fun _ => ?_) (fun _ => ?_) | refine le_jn (fun _ _ _ => ?_) (fun _ => ?_) | refine le_loop (fun _ => ?_) | exact le_refl | apply_assumption
noncomputable def e57 (n : Nat) (a0 : (Int × List ByteArray × Int × Int)) (a1 : Int) : Option ((Int × List ByteArray × Int × Int)) :=
  ck (inR .i64 (a0.2.2.2 - a0.2.2.1)) <|
  if a1 ≤ (a0.2.2.2 - a0.2.2.1) then
    some (a0.1, a0.2.1, a0.2.2.1, a0.2.2.2)
  else
    (
      (e48 n (a0.1, a0.2.1, a0.2.2.1, a0.2.2.2)).bind fun v44 =>
      ck (inR .i64 (a1 + v44)) <|
      ck (inR .i64 ((a1 + v44) + 8)) <|
      ck (inR .i64 (((a0.2.1.length : Nat) : Int) + ((a1 + v44) + 8))) <|
      ck (0 ≤ ((a0.2.1.length : Nat) : Int) + ((a1 + v44) + 8) ∧ ((a0.2.1.length : Nat) : Int) + ((a1 + v44) + 8) ≤ ((a0.2.1.length : Nat) : Int) + ((a1 + v44) + 8) ∧ ((a0.2.1.length : Nat) : Int) + ((a1 + v44) + 8) ≤ 9223372036854775807 ∧ (((a0.2.1.length : Nat) : Int) + ((a1 + v44) + 8)) * ((16 : Nat) : Int) ≤ 140737488355328) <|
      ck (0 ≤ (0 : Int) ∧ (0 : Int) ≤ a0.2.2.1 ∧ a0.2.2.1 ≤ ((a0.2.1.length : Nat) : Int)) <|
      ck (inR .i64 (a0.2.2.2 + ((a1 + v44) + 8))) <|
      ck (0 ≤ a0.2.2.2 + ((a1 + v44) + 8) ∧ a0.2.2.2 + ((a1 + v44) + 8) ≤ (((((a0.2.1.length : Nat) : Int) + ((a1 + v44) + 8)).toNat : Nat) : Int) ∧ (((((a0.2.1.length : Nat) : Int) + ((a1 + v44) + 8)).toNat : Nat) : Int) ≤ (((((a0.2.1.length : Nat) : Int) + ((a1 + v44) + 8)).toNat : Nat) : Int)) <|
      ck (0 ≤ a0.2.2.2 ∧ a0.2.2.2 ≤ ((a0.2.1.length : Nat) : Int) ∧ ((a0.2.1.length : Nat) : Int) ≤ ((a0.2.1.length : Nat) : Int)) <|
      ck (inR .i64 (a0.2.2.2 + ((a1 + v44) + 8))) <|
      some (a0.1, (cpy (cpy (List.replicate (((a0.2.1.length : Nat) : Int) + ((a1 + v44) + 8)).toNat (⟨#[]⟩ : ByteArray)) 0 ((a0.2.1.drop ((0 : Int).toNat)).take (a0.2.2.1.toNat - (0 : Int).toNat)) (min (a0.2.2.1.toNat - (0 : Int).toNat) ((((a0.2.1.length : Nat) : Int) + ((a1 + v44) + 8)).toNat))) ((a0.2.2.2 + ((a1 + v44) + 8)).toNat) ((a0.2.1.drop a0.2.2.2.toNat).take (((a0.2.1.length : Nat) : Int).toNat - a0.2.2.2.toNat)) (min (((a0.2.1.length : Nat) : Int).toNat - a0.2.2.2.toNat) ((((((a0.2.1.length : Nat) : Int) + ((a1 + v44) + 8)).toNat : Nat) : Int).toNat - (a0.2.2.2 + ((a1 + v44) + 8)).toNat))), a0.2.2.1, a0.2.2.2 + ((a1 + v44) + 8))
    )
set_option maxHeartbeats 4000000 in
theorem e57_le (n : Nat) (a0 : (Int × List ByteArray × Int × Int)) (a1 : Int) : Le (e57 n a0 a1) (g57 a0 a1) := by
  unfold e57 g57
  repeat' with_reducible first | exact e48_le _ _ | refine le_bind ?_ (fun _ => ?_) | refine le_ck ?_ | refine le_if ?_ ?_ | refine le_sm (fun _ => ?_) (fun _ => ?_) | refine le_jn (fun _ _ _ => ?_) (fun _ => ?_) | refine le_loop (fun _ => ?_) | exact le_refl | apply_assumption
noncomputable def e21 (n : Nat) (a0 : (Int × List ByteArray × Int × Int)) (a1 : List ByteArray) : Option (Int × (Int × List ByteArray × Int × Int)) :=
  (e47 n (a0.1, a0.2.1, a0.2.2.1, a0.2.2.2)).bind fun v4 =>
  if ¬ (v4 = true) then
    some (4, (a0.1, a0.2.1, a0.2.2.1, a0.2.2.2))
  else
    (
      jn (α := _) (β := Unit) (fun k39 =>
          (itN n (σ := Int) (ρ := (Unit) ⊕ (Unit)) (fun s42 =>
              if s42 < ((a1.length : Nat) : Int) then
                (
                  ck (0 ≤ s42 ∧ s42 < ((a1.length : Nat) : Int)) <|
                  (e56 n (a1.getD s42.toNat default)).bind fun v59 =>
                  if ¬ (v59 = true) then
                    some (.out (.inl (())))
                  else
                    (
                      ck (inR .i64 (s42 + 1)) <|
                      some (.go (s42 + 1))
                    )
                )
              else
                some (.out (.inr (())))
            ) 0).bind fun o56 =>
          sm o56 (fun o63 =>
              some (1, (a0.1, a0.2.1, a0.2.2.1, a0.2.2.2))
            ) (fun o64 =>
              k39 ()
            )
      ) (fun v38 =>
        (e48 n (a0.1, a0.2.1, a0.2.2.1, a0.2.2.2)).bind fun v70 =>
        ck (inR .i64 (a0.1 - v70)) <|
        if (a0.1 - v70) < ((a1.length : Nat) : Int) then
          some (3, (a0.1, a0.2.1, a0.2.2.1, a0.2.2.2))
        else
          (
            (e57 n (a0.1, a0.2.1, a0.2.2.1, a0.2.2.2) ((a1.length : Nat) : Int)).bind fun v74 =>
            ck (0 ≤ v74.2.2.1 ∧ v74.2.2.1 ≤ v74.2.2.2 ∧ v74.2.2.2 ≤ ((v74.2.1.length : Nat) : Int)) <|
            ck (inR .i64 (v74.2.2.1 + (((min a1.length (v74.2.2.2.toNat - v74.2.2.1.toNat)) : Nat) : Int))) <|
            some (0, (v74.1, (cpy v74.2.1 v74.2.2.1.toNat a1 (min a1.length (v74.2.2.2.toNat - v74.2.2.1.toNat))), v74.2.2.1 + (((min a1.length (v74.2.2.2.toNat - v74.2.2.1.toNat)) : Nat) : Int), v74.2.2.2))
          )
      )
    )
set_option maxHeartbeats 4000000 in
theorem e21_le (n : Nat) (a0 : (Int × List ByteArray × Int × Int)) (a1 : List ByteArray) : Le (e21 n a0 a1) (g21 a0 a1) := by
  unfold e21 g21
  repeat' with_reducible first | exact e47_le _ _ | exact e48_le _ _ | exact e56_le _ _ | exact e57_le _ _ _ | refine le_bind ?_ (fun _ => ?_) | refine le_ck ?_ | refine le_if ?_ ?_ | refine le_sm (fun _ => ?_) (fun _ => ?_) | refine le_jn (fun _ _ _ => ?_) (fun _ => ?_) | refine le_loop (fun _ => ?_) | exact le_refl | apply_assumption
noncomputable def e62 (n : Nat) (a0 : (Int × List ByteArray × Int × Int)) (a1 : Int) : Option (Int) :=
  if a1 < a0.2.2.1 then
    some a1
  else
    (
      ck (inR .i64 (a1 + a0.2.2.2)) <|
      ck (inR .i64 ((a1 + a0.2.2.2) - a0.2.2.1)) <|
      some ((a1 + a0.2.2.2) - a0.2.2.1)
    )
set_option maxHeartbeats 4000000 in
theorem e62_le (n : Nat) (a0 : (Int × List ByteArray × Int × Int)) (a1 : Int) : Le (e62 n a0 a1) (g62 a0 a1) := by
  unfold e62 g62
  repeat' with_reducible first | refine le_bind ?_ (fun _ => ?_) | refine le_ck ?_ | refine le_if ?_ ?_ | refine le_sm (fun _ => ?_) (fun _ => ?_) | refine le_jn (fun _ _ _ => ?_) (fun _ => ?_) | refine le_loop (fun _ => ?_) | exact le_refl | apply_assumption
noncomputable def e59 (n : Nat) (a0 : (Int × List ByteArray × Int × Int)) (a1 : Int) : Option (ByteArray) :=
  (e62 n a0 a1).bind fun v5 =>
  ck (0 ≤ v5 ∧ v5 < ((a0.2.1.length : Nat) : Int)) <|
  some (a0.2.1.getD v5.toNat default)
set_option maxHeartbeats 4000000 in
theorem e59_le (n : Nat) (a0 : (Int × List ByteArray × Int × Int)) (a1 : Int) : Le (e59 n a0 a1) (g59 a0 a1) := by
  unfold e59 g59
  repeat' with_reducible first | exact e62_le _ _ _ | refine le_bind ?_ (fun _ => ?_) | refine le_ck ?_ | refine le_if ?_ ?_ | refine le_sm (fun _ => ?_) (fun _ => ?_) | refine le_jn (fun _ _ _ => ?_) (fun _ => ?_) | refine le_loop (fun _ => ?_) | exact le_refl | apply_assumption
noncomputable def e24 (n : Nat) (a0 : (Int × List ByteArray × Int × Int)) (a1 : Int) : Option (ByteArray × Bool) :=
  (e47 n a0).bind fun v21 =>
  if ¬ (v21 = true) then
    some ((lit []), false)
  else
    (
      if a1 < 0 then
        some ((lit []), false)
      else
        (
          (e48 n a0).bind fun v25 =>
          if v25 ≤ a1 then
            some ((lit []), false)
          else
            (
              (e59 n a0 a1).bind fun v28 =>
              some (v28, true)
            )
        )
    )
set_option maxHeartbeats 4000000 in
theorem e24_le (n : Nat) (a0 : (Int × List ByteArray × Int × Int)) (a1 : Int) : Le (e24 n a0 a1) (g24 a0 a1) := by
  unfold e24 g24
  repeat' with_reducible first | exact e47_le _ _ | exact e48_le _ _ | exact e59_le _ _ _ | refine le_bind ?_ (fun _ => ?_) | refine le_ck ?_ | refine le_if ?_ ?_ | refine le_sm (fun _ => ?_) (fun _ => ?_) | refine le_jn (fun _ _ _ => ?_) (fun _ => ?_) | refine le_loop (fun _ => ?_) | exact le_refl | apply_assumption
noncomputable def e28 (n : Nat) (a0 : (Int × List ByteArray × Int × Int)) (a1 : Int) (a2 : ByteArray) : Option (Int × (Int × List ByteArray × Int × Int)) :=
  (e47 n (a0.1, a0.2.1, a0.2.2.1, a0.2.2.2)).bind fun v14 =>
  if ¬ (v14 = true) then
    some (4, (a0.1, a0.2.1, a0.2.2.1, a0.2.2.2))
  else
    (
      if a1 < 0 then
        some (5, (a0.1, a0.2.1, a0.2.2.1, a0.2.2.2))
      else
        (
          (e48 n (a0.1, a0.2.1, a0.2.2.1, a0.2.2.2)).bind fun v18 =>
          if v18 ≤ a1 then
            some (5, (a0.1, a0.2.1, a0.2.2.1, a0.2.2.2))
          else
            (
              (e56 n a2).bind fun v21 =>
              if ¬ (v21 = true) then
                some (1, (a0.1, a0.2.1, a0.2.2.1, a0.2.2.2))
              else
                (
                  (e62 n (a0.1, a0.2.1, a0.2.2.1, a0.2.2.2) a1).bind fun v24 =>
                  ck (0 ≤ v24 ∧ v24 < ((a0.2.1.length : Nat) : Int)) <|
                  some (0, (a0.1, (a0.2.1.set v24.toNat a2), a0.2.2.1, a0.2.2.2))
                )
            )
        )
    )
set_option maxHeartbeats 4000000 in
theorem e28_le (n : Nat) (a0 : (Int × List ByteArray × Int × Int)) (a1 : Int) (a2 : ByteArray) : Le (e28 n a0 a1 a2) (g28 a0 a1 a2) := by
  unfold e28 g28
  repeat' with_reducible first | exact e47_le _ _ | exact e48_le _ _ | exact e56_le _ _ | exact e62_le _ _ _ | refine le_bind ?_ (fun _ => ?_) | refine le_ck ?_ | refine le_if ?_ ?_ | refine le_sm (fun _ => ?_) (fun _ => ?_) | refine le_jn (fun _ _ _ => ?_) (fun _ => ?_) | refine le_loop (fun _ => ?_) | exact le_refl | apply_assumption
noncomputable def e81 (n : Nat) (a0 : List ByteArray) (a1 : ByteArray) : Option ByteArray := ck (a0.length ≤ 140737488355328) <| ck ((Lib.join (a0.map (·.data.toList)) a1.data.toList).length ≤ 140737488355328) <| some ⟨(Lib.join (a0.map (·.data.toList)) a1.data.toList).toArray⟩
set_option maxHeartbeats 4000000 in
theorem e81_le (n : Nat) (a0 : List ByteArray) (a1 : ByteArray) : Le (e81 n a0 a1) (g81 a0 a1) := by
  unfold e81 g81
  repeat' with_reducible first | refine le_bind ?_ (fun _ => ?_) | refine le_ck ?_ | refine le_if ?_ ?_ | refine le_sm (fun _ => ?_) (fun _ => ?_) | refine le_jn (fun _ _ _ => ?_) (fun _ => ?_) | refine le_loop (fun _ => ?_) | exact le_refl | apply_assumption
noncomputable def e101 (n : Nat) (a0 : ByteArray) : Option (ByteArray) :=
  (e67 n a0).bind fun v1 =>
  (e81 n v1 (lit [])).bind fun v3 =>
  some v3
set_option maxHeartbeats 4000000 in
theorem e101_le (n : Nat) (a0 : ByteArray) : Le (e101 n a0) (g101 a0) := by
  unfold e101 g101
  repeat' with_reducible first | exact e67_le _ _ | exact e81_le _ _ _ | refine le_bind ?_ (fun _ => ?_) | refine le_ck ?_ | refine le_if ?_ ?_ | refine le_sm (fun _ => ?_) (fun _ => ?_) | refine le_jn (fun _ _ _ => ?_) (fun _ => ?_) | refine le_loop (fun _ => ?_) | exact le_refl | apply_assumption
noncomputable def e68 (n : Nat) (a0 : ByteArray) : Option ByteArray := ck (a0.size ≤ 140737488355328) <| e101 n (strOf ((bytesOf a0).map fl1))
set_option maxHeartbeats 4000000 in
theorem e68_le (n : Nat) (a0 : ByteArray) : Le (e68 n a0) (g68 a0) := by
  unfold e68 g68
  repeat' with_reducible first | exact e101_le _ _ | refine le_bind ?_ (fun _ => ?_) | refine le_ck ?_ | refine le_if ?_ ?_ | refine le_sm (fun _ => ?_) (fun _ => ?_) | refine le_jn (fun _ _ _ => ?_) (fun _ => ?_) | refine le_loop (fun _ => ?_) | exact le_refl | apply_assumption
noncomputable def e69 (n : Nat) (a0 : ((Int × List ByteArray × Int × Int) × List (List ByteArray) × List ((List ByteArray) × Int) × Bool × Bool × Int × Int)) : Option (((Int × List ByteArray × Int × Int) × List (List ByteArray) × List ((List ByteArray) × Int) × Bool × Bool × Int × Int)) :=
  (e11 n (a0.1.1, a0.1.2.1, a0.1.2.2.1, a0.1.2.2.2)).bind fun v1 =>
  (e13 n (a0.1.1, a0.1.2.1, a0.1.2.2.1, a0.1.2.2.2)).bind fun v3 =>
  ck ((a0.2.2.1.length + 1) * 32 ≤ 140737488355328) <|
  if 64 < (((a0.2.2.1 ++ ([(v1, v3)] : List ((List ByteArray) × Int))).length : Nat) : Int) then
    (
      ck (0 ≤ (1 : Int) ∧ (1 : Int) ≤ (((a0.2.2.1 ++ ([(v1, v3)] : List ((List ByteArray) × Int))).length : Nat) : Int) ∧ (((a0.2.2.1 ++ ([(v1, v3)] : List ((List ByteArray) × Int))).length : Nat) : Int) ≤ (((a0.2.2.1 ++ ([(v1, v3)] : List ((List ByteArray) × Int))).length : Nat) : Int)) <|
      (cl 32 (((a0.2.2.1 ++ ([(v1, v3)] : List ((List ByteArray) × Int))).drop ((1 : Int).toNat)).take ((((a0.2.2.1 ++ ([(v1, v3)] : List ((List ByteArray) × Int))).length : Nat) : Int).toNat - (1 : Int).toNat))).bind fun v24 =>
      some ((a0.1.1, a0.1.2.1, a0.1.2.2.1, a0.1.2.2.2), a0.2.1, (((a0.2.2.1 ++ ([(v1, v3)] : List ((List ByteArray) × Int))).drop ((1 : Int).toNat)).take ((((a0.2.2.1 ++ ([(v1, v3)] : List ((List ByteArray) × Int))).length : Nat) : Int).toNat - (1 : Int).toNat)), a0.2.2.2.1, a0.2.2.2.2.1, a0.2.2.2.2.2.1, a0.2.2.2.2.2.2)
    )
  else
    some ((a0.1.1, a0.1.2.1, a0.1.2.2.1, a0.1.2.2.2), a0.2.1, (a0.2.2.1 ++ ([(v1, v3)] : List ((List ByteArray) × Int))), a0.2.2.2.1, a0.2.2.2.2.1, a0.2.2.2.2.2.1, a0.2.2.2.2.2.2)
set_option maxHeartbeats 4000000 in
theorem e69_le (n : Nat) (a0 : ((Int × List ByteArray × Int × Int) × List (List ByteArray) × List ((List ByteArray) × Int) × Bool × Bool × Int × Int)) : Le (e69 n a0) (g69 a0) := by
  unfold e69 g69
  repeat' with_reducible first | exact e11_le _ _ | exact e13_le _ _ | refine le_bind ?_ (fun _ => ?_) | refine le_ck ?_ | refine le_if ?_ ?_ | refine le_sm (fun _ => ?_) (fun _ => ?_) | refine le_jn (fun _ _ _ => ?_) (fun _ => ?_) | refine le_loop (fun _ => ?_) | exact le_refl | apply_assumption
noncomputable def e97 (n : Nat) (a0 : ByteArray) (a1 : Int) : Option (ByteArray × Bool) :=
  (e118 n a1).bind fun v16 =>
  if ¬ (v16 = true) then
    some (a0, false)
  else
    (
      (e56 n a0).bind fun v19 =>
      if ¬ (v19 = true) then
        some (a0, false)
      else
        (
          (e119 n a1).bind fun v22 =>
          ck (isBytes v22) <|
          ck (a0.size + (strOf v22).size ≤ 9223372036854775807) <|
          if 64 < ((a0 ++ (strOf v22)).size : Int) then
            some (a0, false)
          else
            some (a0 ++ (strOf v22), true)
        )
    )
set_option maxHeartbeats 4000000 in
theorem e97_le (n : Nat) (a0 : ByteArray) (a1 : Int) : Le (e97 n a0 a1) (g97 a0 a1) := by
  unfold e97 g97
  repeat' with_reducible first | exact e56_le _ _ | exact e118_le _ _ | exact e119_le _ _ | refine le_bind ?_ (fun _ => ?_) | refine le_ck ?_ | refine le_if ?_ ?_ | refine le_sm (fun _ => ?_) (fun _ => ?_) | refine le_jn (fun _ _ _ => ?_) (fun _ => ?_) | refine le_loop (fun _ => ?_) | exact le_refl | apply_assumption
noncomputable def e32 (n : Nat) (a0 : ((Int × List ByteArray × Int × Int) × List (List ByteArray) × List ((List ByteArray) × Int) × Bool × Bool × Int × Int)) (a1 : ByteArray) : Option (Bool × ((Int × List ByteArray × Int × Int) × List (List ByteArray) × List ((List ByteArray) × Int) × Bool × Bool × Int × Int)) :=
  jn (α := _) (β := ByteArray × ByteArray) (fun k350 =>
      (e13 n (a0.1.1, a0.1.2.1, a0.1.2.2.1, a0.1.2.2.2)).bind fun v351 =>
      ck (inR .i64 (v351 - 1)) <|
      (e24 n (a0.1.1, a0.1.2.1, a0.1.2.2.1, a0.1.2.2.2) (v351 - 1)).bind fun v354 =>
      if ¬ (v354.2 = true) then
        k350 ((lit []), (lit []))
      else
        (
          jn (α := _) (β := ByteArray) (fun k437 =>
              ck (a1.size ≤ 140737488355328) <|
              (itN n (σ := ByteArray × Int) (ρ := (ByteArray) ⊕ (ByteArray)) (fun s449 =>
                  if s449.2 < (((bytesOf a1).length : Nat) : Int) then
                    (
                      ck (0 ≤ s449.2 ∧ s449.2 ≤ (((bytesOf a1).length : Nat) : Int) ∧ (((bytesOf a1).length : Nat) : Int) ≤ (((bytesOf a1).length : Nat) : Int)) <|
                      (e131 n (((bytesOf a1).drop s449.2.toNat).take ((((bytesOf a1).length : Nat) : Int).toNat - s449.2.toNat))).bind fun v497 =>
                      if v497.2.2 = true then
                        (
                          (e96 n 65533).bind fun v500 =>
                          if 0 < v500 then
                            some (.out (.inl (s449.1)))
                          else
                            (
                              (e97 n s449.1 65533).bind fun v503 =>
                              ck (inR .i64 (s449.2 + 1)) <|
                              some (.go (v503.1, s449.2 + 1))
                            )
                        )
                      else
                        (
                          (e96 n v497.1).bind fun v506 =>
                          if 0 < v506 then
                            some (.out (.inl (s449.1)))
                          else
                            (
                              (e97 n s449.1 v497.1).bind fun v509 =>
                              ck (inR .i64 (s449.2 + v497.2.1)) <|
                              some (.go (v509.1, s449.2 + v497.2.1))
                            )
                        )
                    )
                  else
                    some (.out (.inr (s449.1)))
                ) (v354.1, 0)).bind fun o491 =>
              sm o491 (fun o512 =>
                  k437 o512
                ) (fun o513 =>
                  k437 o513
                )
          ) (fun v436 =>
            k350 (v354.1, v436)
          )
        )
  ) (fun v349 =>
    (e68 n a1).bind fun v515 =>
    (e67 n v515).bind fun v517 =>
    jn (α := _) (β := Unit) (fun k534 =>
        (e18 n (a0.1.1, a0.1.2.1, a0.1.2.2.1, a0.1.2.2.2)).bind fun v535 =>
        if v535 < ((v517.length : Nat) : Int) then
          some (false, ((a0.1.1, a0.1.2.1, a0.1.2.2.1, a0.1.2.2.2), a0.2.1, a0.2.2.1, false, false, a0.2.2.2.2.2.1, a0.2.2.2.2.2.2))
        else
          (
            if v349.1.data.toList = v349.2.data.toList then
              (
                if ((v517.length : Nat) : Int) = 0 then
                  some (false, ((a0.1.1, a0.1.2.1, a0.1.2.2.1, a0.1.2.2.2), a0.2.1, a0.2.2.1, false, false, a0.2.2.2.2.2.1, a0.2.2.2.2.2.2))
                else
                  k534 ()
              )
            else
              k534 ()
          )
    ) (fun v533 =>
      (e69 n ((a0.1.1, a0.1.2.1, a0.1.2.2.1, a0.1.2.2.2), a0.2.1, a0.2.2.1, false, false, a0.2.2.2.2.2.1, a0.2.2.2.2.2.2)).bind fun v540 =>
      if ¬ (v349.1.data.toList = v349.2.data.toList) then
        (
          (e13 n (v540.1.1, v540.1.2.1, v540.1.2.2.1, v540.1.2.2.2)).bind fun v562 =>
          ck (inR .i64 (v562 - 1)) <|
          (e28 n (v540.1.1, v540.1.2.1, v540.1.2.2.1, v540.1.2.2.2) (v562 - 1) v349.2).bind fun v565 =>
          (e21 n (v565.2.1, v565.2.2.1, v565.2.2.2.1, v565.2.2.2.2) v517).bind fun v567 =>
          some (true, ((v567.2.1, v567.2.2.1, v567.2.2.2.1, v567.2.2.2.2), v540.2.1, v540.2.2.1, v540.2.2.2.1, v540.2.2.2.2.1, v540.2.2.2.2.2.1, v540.2.2.2.2.2.2))
        )
      else
        (
          (e21 n (v540.1.1, v540.1.2.1, v540.1.2.2.1, v540.1.2.2.2) v517).bind fun v569 =>
          some (true, ((v569.2.1, v569.2.2.1, v569.2.2.2.1, v569.2.2.2.2), v540.2.1, v540.2.2.1, v540.2.2.2.1, v540.2.2.2.2.1, v540.2.2.2.2.2.1, v540.2.2.2.2.2.2))
        )
    )
  )
set_option maxHeartbeats 4000000 in
theorem e32_le (n : Nat) (a0 : ((Int × List ByteArray × Int × Int) × List (List ByteArray) × List ((List ByteArray) × Int) × Bool × Bool × Int × Int)) (a1 : ByteArray) : Le (e32 n a0 a1) (g32 a0 a1) := by
  unfold e32 g32
  repeat' with_reducible first | exact e13_le _ _ | exact e18_le _ _ | exact e21_le _ _ _ | exact e24_le _ _ _ | exact e28_le _ _ _ _ | exact e67_le _ _ | exact e68_le _ _ | exact e69_le _ _ | exact e96_le _ _ | exact e97_le _ _ _ | exact e131_le _ _ | refine le_bind ?_ (fun _ => ?_) | refine le_ck ?_ | refine le_if ?_ ?_ | refine le_sm (fun _ => ?_) (fun _ => ?_) | refine le_jn (fun _ _ _ => ?_) (fun _ => ?_) | refine le_loop (fun _ => ?_) | exact le_refl | apply_assumption
noncomputable def e20 (n : Nat) (a0 : (Int × List ByteArray × Int × Int)) : Option (Int) :=
  (e47 n a0).bind fun v23 =>
  if ¬ (v23 = true) then
    some 0
  else
    (
      (e48 n a0).bind fun v26 =>
      some v26
    )
set_option maxHeartbeats 4000000 in
theorem e20_le (n : Nat) (a0 : (Int × List ByteArray × Int × Int)) : Le (e20 n a0) (g20 a0) := by
  unfold e20 g20
  repeat' with_reducible first | exact e47_le _ _ | exact e48_le _ _ | refine le_bind ?_ (fun _ => ?_) | refine le_ck ?_ | refine le_if ?_ ?_ | refine le_sm (fun _ => ?_) (fun _ => ?_) | refine le_jn (fun _ _ _ => ?_) (fun _ => ?_) | refine le_loop (fun _ => ?_) | exact le_refl | apply_assumption
noncomputable def e49 (n : Nat) (a0 : (Int × List ByteArray × Int × Int)) (a1 : Int) : Option (Int) :=
  (e48 n a0).bind fun v3 =>
  some (gmax 0 (gmin a1 v3))
set_option maxHeartbeats 4000000 in
theorem e49_le (n : Nat) (a0 : (Int × List ByteArray × Int × Int)) (a1 : Int) : Le (e49 n a0 a1) (g49 a0 a1) := by
  unfold e49 g49
  repeat' with_reducible first | exact e48_le _ _ | refine le_bind ?_ (fun _ => ?_) | refine le_ck ?_ | refine le_if ?_ ?_ | refine le_sm (fun _ => ?_) (fun _ => ?_) | refine le_jn (fun _ _ _ => ?_) (fun _ => ?_) | refine le_loop (fun _ => ?_) | exact le_refl | apply_assumption
noncomputable def e12 (n : Nat) (a0 : (Int × List ByteArray × Int × Int)) (a1 : Int) : Option (Int × (Int × List ByteArray × Int × Int)) :=
  (e47 n (a0.1, a0.2.1, a0.2.2.1, a0.2.2.2)).bind fun v83 =>
  if ¬ (v83 = true) then
    some (0, (a0.1, a0.2.1, a0.2.2.1, a0.2.2.2))
  else
    (
      (e49 n (a0.1, a0.2.1, a0.2.2.1, a0.2.2.2) a1).bind fun v86 =>
      if v86 < a0.2.2.1 then
        (
          ck (inR .i64 (a0.2.2.1 - v86)) <|
          ck (inR .i64 (a0.2.2.2 - (a0.2.2.1 - v86))) <|
          ck (0 ≤ a0.2.2.2 - (a0.2.2.1 - v86) ∧ a0.2.2.2 - (a0.2.2.1 - v86) ≤ a0.2.2.2 ∧ a0.2.2.2 ≤ ((a0.2.1.length : Nat) : Int)) <|
          ck (0 ≤ v86 ∧ v86 ≤ a0.2.2.1 ∧ a0.2.2.1 ≤ ((a0.2.1.length : Nat) : Int)) <|
          ck (inR .i64 (a0.2.2.2 - (a0.2.2.1 - v86))) <|
          some (v86, (a0.1, (cpy a0.2.1 ((a0.2.2.2 - (a0.2.2.1 - v86)).toNat) ((a0.2.1.drop v86.toNat).take (a0.2.2.1.toNat - v86.toNat)) (min (a0.2.2.1.toNat - v86.toNat) (a0.2.2.2.toNat - (a0.2.2.2 - (a0.2.2.1 - v86)).toNat))), v86, a0.2.2.2 - (a0.2.2.1 - v86)))
        )
      else
        (
          ck (inR .i64 (v86 - a0.2.2.1)) <|
          ck (0 ≤ a0.2.2.1 ∧ a0.2.2.1 ≤ ((a0.2.1.length : Nat) : Int) ∧ ((a0.2.1.length : Nat) : Int) ≤ ((a0.2.1.length : Nat) : Int)) <|
          ck (inR .i64 (a0.2.2.2 + (v86 - a0.2.2.1))) <|
          ck (0 ≤ a0.2.2.2 ∧ a0.2.2.2 ≤ a0.2.2.2 + (v86 - a0.2.2.1) ∧ a0.2.2.2 + (v86 - a0.2.2.1) ≤ ((a0.2.1.length : Nat) : Int)) <|
          ck (inR .i64 (a0.2.2.2 + (v86 - a0.2.2.1))) <|
          some (v86, (a0.1, (cpy a0.2.1 a0.2.2.1.toNat ((a0.2.1.drop a0.2.2.2.toNat).take ((a0.2.2.2 + (v86 - a0.2.2.1)).toNat - a0.2.2.2.toNat)) (min ((a0.2.2.2 + (v86 - a0.2.2.1)).toNat - a0.2.2.2.toNat) (((a0.2.1.length : Nat) : Int).toNat - a0.2.2.1.toNat))), v86, a0.2.2.2 + (v86 - a0.2.2.1)))
        )
    )
set_option maxHeartbeats 4000000 in
theorem e12_le (n : Nat) (a0 : (Int × List ByteArray × Int × Int)) (a1 : Int) : Le (e12 n a0 a1) (g12 a0 a1) := by
  unfold e12 g12
  repeat' with_reducible first | exact e47_le _ _ | exact e49_le _ _ _ | refine le_bind ?_ (fun _ => ?_) | refine le_ck ?_ | refine le_if ?_ ?_ | refine le_sm (fun _ => ?_) (fun _ => ?_) | refine le_jn (fun _ _ _ => ?_) (fun _ => ?_) | refine le_loop (fun _ => ?_) | exact le_refl | apply_assumption
noncomputable def e70 (n : Nat) (a0 : ((Int × List ByteArray × Int × Int) × List (List ByteArray) × List ((List ByteArray) × Int) × Bool × Bool × Int × Int)) (a1 : Int) : Option (Bool × ((Int × List ByteArray × Int × Int) × List (List ByteArray) × List ((List ByteArray) × Int) × Bool × Bool × Int × Int)) :=
  (e13 n (a0.1.1, a0.1.2.1, a0.1.2.2.1, a0.1.2.2.2)).bind fun v419 =>
  (e12 n (a0.1.1, a0.1.2.1, a0.1.2.2.1, a0.1.2.2.2) a1).bind fun v421 =>
  some ((decide (¬ v421.1 = v419)), ((v421.2.1, v421.2.2.1, v421.2.2.2.1, v421.2.2.2.2), a0.2.1, a0.2.2.1, false, false, a0.2.2.2.2.2.1, a0.2.2.2.2.2.2))
set_option maxHeartbeats 4000000 in
theorem e70_le (n : Nat) (a0 : ((Int × List ByteArray × Int × Int) × List (List ByteArray) × List ((List ByteArray) × Int) × Bool × Bool × Int × Int)) (a1 : Int) : Le (e70 n a0 a1) (g70 a0 a1) := by
  unfold e70 g70
  repeat' with_reducible first | exact e12_le _ _ _ | exact e13_le _ _ | refine le_bind ?_ (fun _ => ?_) | refine le_ck ?_ | refine le_if ?_ ?_ | refine le_sm (fun _ => ?_) (fun _ => ?_) | refine le_jn (fun _ _ _ => ?_) (fun _ => ?_) | refine le_loop (fun _ => ?_) | exact le_refl | apply_assumption
noncomputable def e102 (n : Nat) (a0 : ((Int × List ByteArray × Int × Int) × List (List ByteArray) × List ((List ByteArray) × Int) × Bool × Bool × Int × Int)) (a1 : Int) : Option (Bool × ((Int × List ByteArray × Int × Int) × List (List ByteArray) × List ((List ByteArray) × Int) × Bool × Bool × Int × Int)) :=
  (e24 n (a0.1.1, a0.1.2.1, a0.1.2.2.1, a0.1.2.2.2) a1).bind fun v1 =>
  if ¬ (v1.2 = true) then
    some (false, ((a0.1.1, a0.1.2.1, a0.1.2.2.1, a0.1.2.2.2), a0.2.1, a0.2.2.1, a0.2.2.2.1, a0.2.2.2.2.1, a0.2.2.2.2.2.1, a0.2.2.2.2.2.2))
  else
    (
      ck (0 ≤ (0 : Int) ∧ 0 < (v1.1.size : Int)) <|
      if 128 ≤ ((v1.1.data.toList[(0 : Int).toNat]?.getD 0).toNat : Int) then
        (
          if 128 ≤ ((v1.1.data.toList[(0 : Int).toNat]?.getD 0).toNat : Int) then
            some (true, ((a0.1.1, a0.1.2.1, a0.1.2.2.1, a0.1.2.2.2), a0.2.1, a0.2.2.1, a0.2.2.2.1, a0.2.2.2.2.1, a0.2.2.2.2.2.1, a0.2.2.2.2.2.2))
          else
            some (false, ((a0.1.1, a0.1.2.1, a0.1.2.2.1, a0.1.2.2.2), a0.2.1, a0.2.2.1, a0.2.2.2.1, a0.2.2.2.2.1, a0.2.2.2.2.2.1, a0.2.2.2.2.2.2))
        )
      else
        (
          jn (α := _) (β := Bool) (fun k37 =>
              if 48 ≤ ((v1.1.data.toList[(0 : Int).toNat]?.getD 0).toNat : Int) then
                k37 (decide (((v1.1.data.toList[(0 : Int).toNat]?.getD 0).toNat : Int) ≤ 57))
              else
                k37 false
          ) (fun v36 =>
            if v36 = true then
              (
                if v36 = true then
                  some (true, ((a0.1.1, a0.1.2.1, a0.1.2.2.1, a0.1.2.2.2), a0.2.1, a0.2.2.1, a0.2.2.2.1, a0.2.2.2.2.1, a0.2.2.2.2.2.1, a0.2.2.2.2.2.2))
                else
                  some (false, ((a0.1.1, a0.1.2.1, a0.1.2.2.1, a0.1.2.2.2), a0.2.1, a0.2.2.1, a0.2.2.2.1, a0.2.2.2.2.1, a0.2.2.2.2.2.1, a0.2.2.2.2.2.2))
              )
            else
              (
                if 65 ≤ ((v1.1.data.toList[(0 : Int).toNat]?.getD 0).toNat : Int) then
                  (
                    if ((v1.1.data.toList[(0 : Int).toNat]?.getD 0).toNat : Int) ≤ 90 then
                      (
                        if ((v1.1.data.toList[(0 : Int).toNat]?.getD 0).toNat : Int) ≤ 90 then
                          some (true, ((a0.1.1, a0.1.2.1, a0.1.2.2.1, a0.1.2.2.2), a0.2.1, a0.2.2.1, a0.2.2.2.1, a0.2.2.2.2.1, a0.2.2.2.2.2.1, a0.2.2.2.2.2.2))
                        else
                          some (false, ((a0.1.1, a0.1.2.1, a0.1.2.2.1, a0.1.2.2.2), a0.2.1, a0.2.2.1, a0.2.2.2.1, a0.2.2.2.2.1, a0.2.2.2.2.2.1, a0.2.2.2.2.2.2))
                      )
                    else
                      (
                        if 97 ≤ ((v1.1.data.toList[(0 : Int).toNat]?.getD 0).toNat : Int) then
                          (
                            if ((v1.1.data.toList[(0 : Int).toNat]?.getD 0).toNat : Int) ≤ 122 then
                              some (true, ((a0.1.1, a0.1.2.1, a0.1.2.2.1, a0.1.2.2.2), a0.2.1, a0.2.2.1, a0.2.2.2.1, a0.2.2.2.2.1, a0.2.2.2.2.2.1, a0.2.2.2.2.2.2))
                            else
                              some (false, ((a0.1.1, a0.1.2.1, a0.1.2.2.1, a0.1.2.2.2), a0.2.1, a0.2.2.1, a0.2.2.2.1, a0.2.2.2.2.1, a0.2.2.2.2.2.1, a0.2.2.2.2.2.2))
                          )
                        else
                          some (false, ((a0.1.1, a0.1.2.1, a0.1.2.2.1, a0.1.2.2.2), a0.2.1, a0.2.2.1, a0.2.2.2.1, a0.2.2.2.2.1, a0.2.2.2.2.2.1, a0.2.2.2.2.2.2))
                      )
                  )
                else
                  (
                    if 97 ≤ ((v1.1.data.toList[(0 : Int).toNat]?.getD 0).toNat : Int) then
                      (
                        if ((v1.1.data.toList[(0 : Int).toNat]?.getD 0).toNat : Int) ≤ 122 then
                          some (true, ((a0.1.1, a0.1.2.1, a0.1.2.2.1, a0.1.2.2.2), a0.2.1, a0.2.2.1, a0.2.2.2.1, a0.2.2.2.2.1, a0.2.2.2.2.2.1, a0.2.2.2.2.2.2))
                        else
                          some (false, ((a0.1.1, a0.1.2.1, a0.1.2.2.1, a0.1.2.2.2), a0.2.1, a0.2.2.1, a0.2.2.2.1, a0.2.2.2.2.1, a0.2.2.2.2.2.1, a0.2.2.2.2.2.2))
                      )
                    else
                      some (false, ((a0.1.1, a0.1.2.1, a0.1.2.2.1, a0.1.2.2.2), a0.2.1, a0.2.2.1, a0.2.2.2.1, a0.2.2.2.2.1, a0.2.2.2.2.2.1, a0.2.2.2.2.2.2))
                  )
              )
          )
        )
    )
set_option maxHeartbeats 4000000 in
theorem e102_le (n : Nat) (a0 : ((Int × List ByteArray × Int × Int) × List (List ByteArray) × List ((List ByteArray) × Int) × Bool × Bool × Int × Int)) (a1 : Int) : Le (e102 n a0 a1) (g102 a0 a1) := by
  unfold e102 g102
  repeat' with_reducible first | exact e24_le _ _ _ | refine le_bind ?_ (fun _ => ?_) | refine le_ck ?_ | refine le_if ?_ ?_ | refine le_sm (fun _ => ?_) (fun _ => ?_) | refine le_jn (fun _ _ _ => ?_) (fun _ => ?_) | refine le_loop (fun _ => ?_) | exact le_refl | apply_assumption
noncomputable def e71 (n : Nat) (a0 : ((Int × List ByteArray × Int × Int) × List (List ByteArray) × List ((List ByteArray) × Int) × Bool × Bool × Int × Int)) : Option (Int × ((Int × List ByteArray × Int × Int) × List (List ByteArray) × List ((List ByteArray) × Int) × Bool × Bool × Int × Int)) :=
  (e13 n (a0.1.1, a0.1.2.1, a0.1.2.2.1, a0.1.2.2.2)).bind fun v1 =>
  jn (α := _) (β := List (List ByteArray) × List ((List ByteArray) × Int) × Bool × Bool × Int × Int × Int × List ByteArray × Int × Int × Int) (fun k99 =>
      (itN n (σ := List (List ByteArray) × List ((List ByteArray) × Int) × Bool × Bool × Int × Int × Int × List ByteArray × Int × Int × Int) (ρ := List (List ByteArray) × List ((List ByteArray) × Int) × Bool × Bool × Int × Int × Int × List ByteArray × Int × Int × Int) (fun s102 =>
          if 0 < s102.2.2.2.2.2.2.2.2.2.2 then
            (
              ck (inR .i64 (s102.2.2.2.2.2.2.2.2.2.2 - 1)) <|
              (e102 n ((s102.2.2.2.2.2.2.1, s102.2.2.2.2.2.2.2.1, s102.2.2.2.2.2.2.2.2.1, s102.2.2.2.2.2.2.2.2.2.1), s102.1, s102.2.1, s102.2.2.1, s102.2.2.2.1, s102.2.2.2.2.1, s102.2.2.2.2.2.1) (s102.2.2.2.2.2.2.2.2.2.2 - 1)).bind fun v151 =>
              if ¬ (v151.1 = true) then
                (
                  ck (inR .i64 (s102.2.2.2.2.2.2.2.2.2.2 - 1)) <|
                  some (.go (v151.2.2.1, v151.2.2.2.1, v151.2.2.2.2.1, v151.2.2.2.2.2.1, v151.2.2.2.2.2.2.1, v151.2.2.2.2.2.2.2, v151.2.1.1, v151.2.1.2.1, v151.2.1.2.2.1, v151.2.1.2.2.2, s102.2.2.2.2.2.2.2.2.2.2 - 1))
                )
              else
                some (.out (v151.2.2.1, v151.2.2.2.1, v151.2.2.2.2.1, v151.2.2.2.2.2.1, v151.2.2.2.2.2.2.1, v151.2.2.2.2.2.2.2, v151.2.1.1, v151.2.1.2.1, v151.2.1.2.2.1, v151.2.1.2.2.2, s102.2.2.2.2.2.2.2.2.2.2))
            )
          else
            some (.out (s102.1, s102.2.1, s102.2.2.1, s102.2.2.2.1, s102.2.2.2.2.1, s102.2.2.2.2.2.1, s102.2.2.2.2.2.2.1, s102.2.2.2.2.2.2.2.1, s102.2.2.2.2.2.2.2.2.1, s102.2.2.2.2.2.2.2.2.2.1, s102.2.2.2.2.2.2.2.2.2.2))
        ) (a0.2.1, a0.2.2.1, a0.2.2.2.1, a0.2.2.2.2.1, a0.2.2.2.2.2.1, a0.2.2.2.2.2.2, a0.1.1, a0.1.2.1, a0.1.2.2.1, a0.1.2.2.2, v1)).bind fun o148 =>
        k99 (o148.1, o148.2.1, o148.2.2.1, o148.2.2.2.1, o148.2.2.2.2.1, o148.2.2.2.2.2.1, o148.2.2.2.2.2.2.1, o148.2.2.2.2.2.2.2.1, o148.2.2.2.2.2.2.2.2.1, o148.2.2.2.2.2.2.2.2.2.1, o148.2.2.2.2.2.2.2.2.2.2)
  ) (fun v98 =>
    jn (α := _) (β := List (List ByteArray) × List ((List ByteArray) × Int) × Bool × Bool × Int × Int × Int × List ByteArray × Int × Int × Int) (fun k277 =>
        (itN n (σ := List (List ByteArray) × List ((List ByteArray) × Int) × Bool × Bool × Int × Int × Int × List ByteArray × Int × Int × Int) (ρ := List (List ByteArray) × List ((List ByteArray) × Int) × Bool × Bool × Int × Int × Int × List ByteArray × Int × Int × Int) (fun s280 =>
            if 0 < s280.2.2.2.2.2.2.2.2.2.2 then
              (
                ck (inR .i64 (s280.2.2.2.2.2.2.2.2.2.2 - 1)) <|
                (e102 n ((s280.2.2.2.2.2.2.1, s280.2.2.2.2.2.2.2.1, s280.2.2.2.2.2.2.2.2.1, s280.2.2.2.2.2.2.2.2.2.1), s280.1, s280.2.1, s280.2.2.1, s280.2.2.2.1, s280.2.2.2.2.1, s280.2.2.2.2.2.1) (s280.2.2.2.2.2.2.2.2.2.2 - 1)).bind fun v329 =>
                if v329.1 = true then
                  (
                    ck (inR .i64 (s280.2.2.2.2.2.2.2.2.2.2 - 1)) <|
                    some (.go (v329.2.2.1, v329.2.2.2.1, v329.2.2.2.2.1, v329.2.2.2.2.2.1, v329.2.2.2.2.2.2.1, v329.2.2.2.2.2.2.2, v329.2.1.1, v329.2.1.2.1, v329.2.1.2.2.1, v329.2.1.2.2.2, s280.2.2.2.2.2.2.2.2.2.2 - 1))
                  )
                else
                  some (.out (v329.2.2.1, v329.2.2.2.1, v329.2.2.2.2.1, v329.2.2.2.2.2.1, v329.2.2.2.2.2.2.1, v329.2.2.2.2.2.2.2, v329.2.1.1, v329.2.1.2.1, v329.2.1.2.2.1, v329.2.1.2.2.2, s280.2.2.2.2.2.2.2.2.2.2))
              )
            else
              some (.out (s280.1, s280.2.1, s280.2.2.1, s280.2.2.2.1, s280.2.2.2.2.1, s280.2.2.2.2.2.1, s280.2.2.2.2.2.2.1, s280.2.2.2.2.2.2.2.1, s280.2.2.2.2.2.2.2.2.1, s280.2.2.2.2.2.2.2.2.2.1, s280.2.2.2.2.2.2.2.2.2.2))
          ) (v98.1, v98.2.1, v98.2.2.1, v98.2.2.2.1, v98.2.2.2.2.1, v98.2.2.2.2.2.1, v98.2.2.2.2.2.2.1, v98.2.2.2.2.2.2.2.1, v98.2.2.2.2.2.2.2.2.1, v98.2.2.2.2.2.2.2.2.2.1, v98.2.2.2.2.2.2.2.2.2.2)).bind fun o326 =>
          k277 (o326.1, o326.2.1, o326.2.2.1, o326.2.2.2.1, o326.2.2.2.2.1, o326.2.2.2.2.2.1, o326.2.2.2.2.2.2.1, o326.2.2.2.2.2.2.2.1, o326.2.2.2.2.2.2.2.2.1, o326.2.2.2.2.2.2.2.2.2.1, o326.2.2.2.2.2.2.2.2.2.2)
    ) (fun v276 =>
      some (v276.2.2.2.2.2.2.2.2.2.2, ((v276.2.2.2.2.2.2.1, v276.2.2.2.2.2.2.2.1, v276.2.2.2.2.2.2.2.2.1, v276.2.2.2.2.2.2.2.2.2.1), v276.1, v276.2.1, v276.2.2.1, v276.2.2.2.1, v276.2.2.2.2.1, v276.2.2.2.2.2.1))
    )
  )
set_option maxHeartbeats 4000000 in
theorem e71_le (n : Nat) (a0 : ((Int × List ByteArray × Int × Int) × List (List ByteArray) × List ((List ByteArray) × Int) × Bool × Bool × Int × Int)) : Le (e71 n a0) (g71 a0) := by
  unfold e71 g71
  repeat' with_reducible first | exact e13_le _ _ | exact e102_le _ _ _ | refine le_bind ?_ (fun _ => ?_) | refine le_ck ?_ | refine le_if ?_ ?_ | refine le_sm (fun _ => ?_) (fun _ => ?_) | refine le_jn (fun _ _ _ => ?_) (fun _ => ?_) | refine le_loop (fun _ => ?_) | exact le_refl | apply_assumption
noncomputable def e72 (n : Nat) (a0 : ((Int × List ByteArray × Int × Int) × List (List ByteArray) × List ((List ByteArray) × Int) × Bool × Bool × Int × Int)) : Option (Int × ((Int × List ByteArray × Int × Int) × List (List ByteArray) × List ((List ByteArray) × Int) × Bool × Bool × Int × Int)) :=
  (e13 n (a0.1.1, a0.1.2.1, a0.1.2.2.1, a0.1.2.2.2)).bind fun v359 =>
  (e20 n (a0.1.1, a0.1.2.1, a0.1.2.2.1, a0.1.2.2.2)).bind fun v361 =>
  jn (α := _) (β := List (List ByteArray) × List ((List ByteArray) × Int) × Bool × Bool × Int × Int × Int × List ByteArray × Int × Int × Int) (fun k455 =>
      (itN n (σ := List (List ByteArray) × List ((List ByteArray) × Int) × Bool × Bool × Int × Int × Int × List ByteArray × Int × Int × Int) (ρ := List (List ByteArray) × List ((List ByteArray) × Int) × Bool × Bool × Int × Int × Int × List ByteArray × Int × Int × Int) (fun s458 =>
          if s458.2.2.2.2.2.2.2.2.2.2 < v361 then
            (
              (e102 n ((s458.2.2.2.2.2.2.1, s458.2.2.2.2.2.2.2.1, s458.2.2.2.2.2.2.2.2.1, s458.2.2.2.2.2.2.2.2.2.1), s458.1, s458.2.1, s458.2.2.1, s458.2.2.2.1, s458.2.2.2.2.1, s458.2.2.2.2.2.1) s458.2.2.2.2.2.2.2.2.2.2).bind fun v504 =>
              if ¬ (v504.1 = true) then
                (
                  ck (inR .i64 (s458.2.2.2.2.2.2.2.2.2.2 + 1)) <|
                  some (.go (v504.2.2.1, v504.2.2.2.1, v504.2.2.2.2.1, v504.2.2.2.2.2.1, v504.2.2.2.2.2.2.1, v504.2.2.2.2.2.2.2, v504.2.1.1, v504.2.1.2.1, v504.2.1.2.2.1, v504.2.1.2.2.2, s458.2.2.2.2.2.2.2.2.2.2 + 1))
                )
              else
                some (.out (v504.2.2.1, v504.2.2.2.1, v504.2.2.2.2.1, v504.2.2.2.2.2.1, v504.2.2.2.2.2.2.1, v504.2.2.2.2.2.2.2, v504.2.1.1, v504.2.1.2.1, v504.2.1.2.2.1, v504.2.1.2.2.2, s458.2.2.2.2.2.2.2.2.2.2))
            )
          else
            some (.out (s458.1, s458.2.1, s458.2.2.1, s458.2.2.2.1, s458.2.2.2.2.1, s458.2.2.2.2.2.1, s458.2.2.2.2.2.2.1, s458.2.2.2.2.2.2.2.1, s458.2.2.2.2.2.2.2.2.1, s458.2.2.2.2.2.2.2.2.2.1, s458.2.2.2.2.2.2.2.2.2.2))
        ) (a0.2.1, a0.2.2.1, a0.2.2.2.1, a0.2.2.2.2.1, a0.2.2.2.2.2.1, a0.2.2.2.2.2.2, a0.1.1, a0.1.2.1, a0.1.2.2.1, a0.1.2.2.2, v359)).bind fun o502 =>
        k455 (o502.1, o502.2.1, o502.2.2.1, o502.2.2.2.1, o502.2.2.2.2.1, o502.2.2.2.2.2.1, o502.2.2.2.2.2.2.1, o502.2.2.2.2.2.2.2.1, o502.2.2.2.2.2.2.2.2.1, o502.2.2.2.2.2.2.2.2.2.1, o502.2.2.2.2.2.2.2.2.2.2)
  ) (fun v454 =>
    jn (α := _) (β := List (List ByteArray) × List ((List ByteArray) × Int) × Bool × Bool × Int × Int × Int × List ByteArray × Int × Int × Int) (fun k626 =>
        (itN n (σ := List (List ByteArray) × List ((List ByteArray) × Int) × Bool × Bool × Int × Int × Int × List ByteArray × Int × Int × Int) (ρ := List (List ByteArray) × List ((List ByteArray) × Int) × Bool × Bool × Int × Int × Int × List ByteArray × Int × Int × Int) (fun s629 =>
            if s629.2.2.2.2.2.2.2.2.2.2 < v361 then
              (
                (e102 n ((s629.2.2.2.2.2.2.1, s629.2.2.2.2.2.2.2.1, s629.2.2.2.2.2.2.2.2.1, s629.2.2.2.2.2.2.2.2.2.1), s629.1, s629.2.1, s629.2.2.1, s629.2.2.2.1, s629.2.2.2.2.1, s629.2.2.2.2.2.1) s629.2.2.2.2.2.2.2.2.2.2).bind fun v675 =>
                if v675.1 = true then
                  (
                    ck (inR .i64 (s629.2.2.2.2.2.2.2.2.2.2 + 1)) <|
                    some (.go (v675.2.2.1, v675.2.2.2.1, v675.2.2.2.2.1, v675.2.2.2.2.2.1, v675.2.2.2.2.2.2.1, v675.2.2.2.2.2.2.2, v675.2.1.1, v675.2.1.2.1, v675.2.1.2.2.1, v675.2.1.2.2.2, s629.2.2.2.2.2.2.2.2.2.2 + 1))
                  )
                else
                  some (.out (v675.2.2.1, v675.2.2.2.1, v675.2.2.2.2.1, v675.2.2.2.2.2.1, v675.2.2.2.2.2.2.1, v675.2.2.2.2.2.2.2, v675.2.1.1, v675.2.1.2.1, v675.2.1.2.2.1, v675.2.1.2.2.2, s629.2.2.2.2.2.2.2.2.2.2))
              )
            else
              some (.out (s629.1, s629.2.1, s629.2.2.1, s629.2.2.2.1, s629.2.2.2.2.1, s629.2.2.2.2.2.1, s629.2.2.2.2.2.2.1, s629.2.2.2.2.2.2.2.1, s629.2.2.2.2.2.2.2.2.1, s629.2.2.2.2.2.2.2.2.2.1, s629.2.2.2.2.2.2.2.2.2.2))
          ) (v454.1, v454.2.1, v454.2.2.1, v454.2.2.2.1, v454.2.2.2.2.1, v454.2.2.2.2.2.1, v454.2.2.2.2.2.2.1, v454.2.2.2.2.2.2.2.1, v454.2.2.2.2.2.2.2.2.1, v454.2.2.2.2.2.2.2.2.2.1, v454.2.2.2.2.2.2.2.2.2.2)).bind fun o673 =>
          k626 (o673.1, o673.2.1, o673.2.2.1, o673.2.2.2.1, o673.2.2.2.2.1, o673.2.2.2.2.2.1, o673.2.2.2.2.2.2.1, o673.2.2.2.2.2.2.2.1, o673.2.2.2.2.2.2.2.2.1, o673.2.2.2.2.2.2.2.2.2.1, o673.2.2.2.2.2.2.2.2.2.2)
    ) (fun v625 =>
      some (v625.2.2.2.2.2.2.2.2.2.2, ((v625.2.2.2.2.2.2.1, v625.2.2.2.2.2.2.2.1, v625.2.2.2.2.2.2.2.2.1, v625.2.2.2.2.2.2.2.2.2.1), v625.1, v625.2.1, v625.2.2.1, v625.2.2.2.1, v625.2.2.2.2.1, v625.2.2.2.2.2.1))
    )
  )
set_option maxHeartbeats 4000000 in
theorem e72_le (n : Nat) (a0 : ((Int × List ByteArray × Int × Int) × List (List ByteArray) × List ((List ByteArray) × Int) × Bool × Bool × Int × Int)) : Le (e72 n a0) (g72 a0) := by
  unfold e72 g72
  repeat' with_reducible first | exact e13_le _ _ | exact e20_le _ _ | exact e102_le _ _ _ | refine le_bind ?_ (fun _ => ?_) | refine le_ck ?_ | refine le_if ?_ ?_ | refine le_sm (fun _ => ?_) (fun _ => ?_) | refine le_jn (fun _ _ _ => ?_) (fun _ => ?_) | refine le_loop (fun _ => ?_) | exact le_refl | apply_assumption
noncomputable def e19 (n : Nat) (a0 : (Int × List ByteArray × Int × Int)) (a1 : Int) (a2 : Int) : Option (List ByteArray × (Int × List ByteArray × Int × Int)) :=
  (e47 n (a0.1, a0.2.1, a0.2.2.1, a0.2.2.2)).bind fun v4 =>
  if ¬ (v4 = true) then
    some (([] : List ByteArray), (a0.1, a0.2.1, a0.2.2.1, a0.2.2.2))
  else
    (
      (e49 n (a0.1, a0.2.1, a0.2.2.1, a0.2.2.2) a1).bind fun v7 =>
      (e49 n (a0.1, a0.2.1, a0.2.2.1, a0.2.2.2) a2).bind fun v9 =>
      if v9 ≤ v7 then
        some (([] : List ByteArray), (a0.1, a0.2.1, a0.2.2.1, a0.2.2.2))
      else
        (
          (e11 n (a0.1, a0.2.1, a0.2.2.1, a0.2.2.2)).bind fun v13 =>
          ck (0 ≤ v7 ∧ v7 ≤ v9 ∧ v9 ≤ v9 ∧ v9 ≤ ((v13.length : Nat) : Int)) <|
          (e12 n (a0.1, a0.2.1, a0.2.2.1, a0.2.2.2) v7).bind fun v18 =>
          ck (inR .i64 (v9 - v7)) <|
          ck (inR .i64 (v18.2.2.2.2 + (v9 - v7))) <|
          if v9 ≤ a0.2.2.1 then
            (
              ck (inR .i64 (v9 - v7)) <|
              ck (inR .i64 (a0.2.2.1 - (v9 - v7))) <|
              (e12 n (v18.2.1, v18.2.2.1, v18.2.2.2.1, v18.2.2.2.2 + (v9 - v7)) (a0.2.2.1 - (v9 - v7))).bind fun v33 =>
              some (((v13.drop v7.toNat).take (v9.toNat - v7.toNat)), (v33.2.1, v33.2.2.1, v33.2.2.2.1, v33.2.2.2.2))
            )
          else
            (
              if a0.2.2.1 < v7 then
                (
                  (e12 n (v18.2.1, v18.2.2.1, v18.2.2.2.1, v18.2.2.2.2 + (v9 - v7)) a0.2.2.1).bind fun v48 =>
                  some (((v13.drop v7.toNat).take (v9.toNat - v7.toNat)), (v48.2.1, v48.2.2.1, v48.2.2.2.1, v48.2.2.2.2))
                )
              else
                some (((v13.drop v7.toNat).take (v9.toNat - v7.toNat)), (v18.2.1, v18.2.2.1, v18.2.2.2.1, v18.2.2.2.2 + (v9 - v7)))
            )
        )
    )
set_option maxHeartbeats 4000000 in
theorem e19_le (n : Nat) (a0 : (Int × List ByteArray × Int × Int)) (a1 : Int) (a2 : Int) : Le (e19 n a0 a1 a2) (g19 a0 a1 a2) := by
  unfold e19 g19
  repeat' with_reducible first | exact e11_le _ _ | exact e12_le _ _ _ | exact e47_le _ _ | exact e49_le _ _ _ | refine le_bind ?_ (fun _ => ?_) | refine le_ck ?_ | refine le_if ?_ ?_ | refine le_sm (fun _ => ?_) (fun _ => ?_) | refine le_jn (fun _ _ _ => ?_) (fun _ => ?_) | refine le_loop (fun _ => ?_) | exact le_refl | apply_assumption
noncomputable def e73 (n : Nat) (a0 : ((Int × List ByteArray × Int × Int) × List (List ByteArray) × List ((List ByteArray) × Int) × Bool × Bool × Int × Int)) (a1 : Int) (a2 : Int) : Option (Bool × ((Int × List ByteArray × Int × Int) × List (List ByteArray) × List ((List ByteArray) × Int) × Bool × Bool × Int × Int)) :=
  if a1 < 0 then
    some (false, ((a0.1.1, a0.1.2.1, a0.1.2.2.1, a0.1.2.2.2), a0.2.1, a0.2.2.1, false, false, a0.2.2.2.2.2.1, a0.2.2.2.2.2.2))
  else
    (
      (e20 n (a0.1.1, a0.1.2.1, a0.1.2.2.1, a0.1.2.2.2)).bind fun v55 =>
      if v55 < a2 then
        some (false, ((a0.1.1, a0.1.2.1, a0.1.2.2.1, a0.1.2.2.2), a0.2.1, a0.2.2.1, false, false, a0.2.2.2.2.2.1, a0.2.2.2.2.2.2))
      else
        (
          if a2 ≤ a1 then
            some (false, ((a0.1.1, a0.1.2.1, a0.1.2.2.1, a0.1.2.2.2), a0.2.1, a0.2.2.1, false, false, a0.2.2.2.2.2.1, a0.2.2.2.2.2.2))
          else
            (
              (e69 n ((a0.1.1, a0.1.2.1, a0.1.2.2.1, a0.1.2.2.2), a0.2.1, a0.2.2.1, false, false, a0.2.2.2.2.2.1, a0.2.2.2.2.2.2)).bind fun v59 =>
              (e19 n (v59.1.1, v59.1.2.1, v59.1.2.2.1, v59.1.2.2.2) a1 a2).bind fun v74 =>
              (e12 n (v74.2.1, v74.2.2.1, v74.2.2.2.1, v74.2.2.2.2) a1).bind fun v85 =>
              some (true, ((v85.2.1, v85.2.2.1, v85.2.2.2.1, v85.2.2.2.2), v59.2.1, v59.2.2.1, v59.2.2.2.1, v59.2.2.2.2.1, v59.2.2.2.2.2.1, v59.2.2.2.2.2.2))
            )
        )
    )
set_option maxHeartbeats 4000000 in
theorem e73_le (n : Nat) (a0 : ((Int × List ByteArray × Int × Int) × List (List ByteArray) × List ((List ByteArray) × Int) × Bool × Bool × Int × Int)) (a1 : Int) (a2 : Int) : Le (e73 n a0 a1 a2) (g73 a0 a1 a2) := by
  unfold e73 g73
  repeat' with_reducible first | exact e12_le _ _ _ | exact e19_le _ _ _ _ | exact e20_le _ _ | exact e69_le _ _ | refine le_bind ?_ (fun _ => ?_) | refine le_ck ?_ | refine le_if ?_ ?_ | refine le_sm (fun _ => ?_) (fun _ => ?_) | refine le_jn (fun _ _ _ => ?_) (fun _ => ?_) | refine le_loop (fun _ => ?_) | exact le_refl | apply_assumption
noncomputable def e103 (n : Nat) (a0 : List ByteArray) : Option (List ByteArray) :=
  ck ((0 + a0.length) * 16 ≤ 140737488355328) <|
  some (([] : List ByteArray) ++ a0)
set_option maxHeartbeats 4000000 in
theorem e103_le (n : Nat) (a0 : List ByteArray) : Le (e103 n a0) (g103 a0) := by
  unfold e103 g103
  repeat' with_reducible first | refine le_bind ?_ (fun _ => ?_) | refine le_ck ?_ | refine le_if ?_ ?_ | refine le_sm (fun _ => ?_) (fun _ => ?_) | refine le_jn (fun _ _ _ => ?_) (fun _ => ?_) | refine le_loop (fun _ => ?_) | exact le_refl | apply_assumption
noncomputable def e74 (n : Nat) (a0 : ((Int × List ByteArray × Int × Int) × List (List ByteArray) × List ((List ByteArray) × Int) × Bool × Bool × Int × Int)) (a1 : Int) (a2 : Int) (a3 : Bool) : Option (Bool × ((Int × List ByteArray × Int × Int) × List (List ByteArray) × List ((List ByteArray) × Int) × Bool × Bool × Int × Int)) :=
  jn (α := _) (β := Bool) (fun k169 =>
      if a0.2.2.2.1 = true then
        k169 (decide (0 < ((a0.2.1.length : Nat) : Int)))
      else
        k169 false
  ) (fun v168 =>
    (e11 n (a0.1.1, a0.1.2.1, a0.1.2.2.1, a0.1.2.2.2)).bind fun v171 =>
    (e73 n ((a0.1.1, a0.1.2.1, a0.1.2.2.1, a0.1.2.2.2), a0.2.1, a0.2.2.1, a0.2.2.2.1, a0.2.2.2.2.1, a0.2.2.2.2.2.1, a0.2.2.2.2.2.2) a1 a2).bind fun v189 =>
    if ¬ (v189.1 = true) then
      some (false, ((v189.2.1.1, v189.2.1.2.1, v189.2.1.2.2.1, v189.2.1.2.2.2), v189.2.2.1, v189.2.2.2.1, v189.2.2.2.2.1, v189.2.2.2.2.2.1, v189.2.2.2.2.2.2.1, v189.2.2.2.2.2.2.2))
    else
      (
        ck (0 ≤ a1 ∧ a1 ≤ a2 ∧ a2 ≤ ((v171.length : Nat) : Int)) <|
        (e103 n ((v171.drop a1.toNat).take (a2.toNat - a1.toNat))).bind fun v208 =>
        jn (α := _) (β := Bool) (fun k306 =>
            if v168 = true then
              k306 a3
            else
              k306 false
        ) (fun v305 =>
          if v305 = true then
            (
              ck (0 ≤ (0 : Int) ∧ 0 < ((v189.2.2.1.length : Nat) : Int)) <|
              ck ((((v171.drop a1.toNat).take (a2.toNat - a1.toNat)).length + ((v189.2.2.1.getD (0 : Int).toNat default).length)) * 16 ≤ 140737488355328) <|
              ck (0 ≤ (0 : Int) ∧ 0 < ((v189.2.2.1.length : Nat) : Int)) <|
              some (true, ((v189.2.1.1, v189.2.1.2.1, v189.2.1.2.2.1, v189.2.1.2.2.2), (v189.2.2.1.set (0 : Int).toNat (((v171.drop a1.toNat).take (a2.toNat - a1.toNat)) ++ (v189.2.2.1.getD (0 : Int).toNat default))), v189.2.2.2.1, true, v189.2.2.2.2.2.1, v189.2.2.2.2.2.2.1, v189.2.2.2.2.2.2.2))
            )
          else
            (
              if v168 = true then
                (
                  ck (0 ≤ (0 : Int) ∧ 0 < ((v189.2.2.1.length : Nat) : Int)) <|
                  (e103 n (v189.2.2.1.getD (0 : Int).toNat default)).bind fun v347 =>
                  ck (((v189.2.2.1.getD (0 : Int).toNat default).length + ((v171.drop a1.toNat).take (a2.toNat - a1.toNat)).length) * 16 ≤ 140737488355328) <|
                  ck (0 ≤ (0 : Int) ∧ 0 < ((v189.2.2.1.length : Nat) : Int)) <|
                  some (true, ((v189.2.1.1, v189.2.1.2.1, v189.2.1.2.2.1, v189.2.1.2.2.2), (v189.2.2.1.set (0 : Int).toNat ((v189.2.2.1.getD (0 : Int).toNat default) ++ ((v171.drop a1.toNat).take (a2.toNat - a1.toNat)))), v189.2.2.2.1, true, v189.2.2.2.2.2.1, v189.2.2.2.2.2.2.1, v189.2.2.2.2.2.2.2))
                )
              else
                (
                  ck ((1 + v189.2.2.1.length) * 24 ≤ 140737488355328) <|
                  if 16 < (((([((v171.drop a1.toNat).take (a2.toNat - a1.toNat))] : List (List ByteArray)) ++ v189.2.2.1).length : Nat) : Int) then
                    (
                      ck (0 ≤ (0 : Int) ∧ (0 : Int) ≤ (16 : Int) ∧ (16 : Int) ≤ (((([((v171.drop a1.toNat).take (a2.toNat - a1.toNat))] : List (List ByteArray)) ++ v189.2.2.1).length : Nat) : Int)) <|
                      some (true, ((v189.2.1.1, v189.2.1.2.1, v189.2.1.2.2.1, v189.2.1.2.2.2), ((([((v171.drop a1.toNat).take (a2.toNat - a1.toNat))] : List (List ByteArray)) ++ v189.2.2.1).take ((16 : Int).toNat - (0 : Int).toNat)), v189.2.2.2.1, true, v189.2.2.2.2.2.1, v189.2.2.2.2.2.2.1, v189.2.2.2.2.2.2.2))
                    )
                  else
                    some (true, ((v189.2.1.1, v189.2.1.2.1, v189.2.1.2.2.1, v189.2.1.2.2.2), (([((v171.drop a1.toNat).take (a2.toNat - a1.toNat))] : List (List ByteArray)) ++ v189.2.2.1), v189.2.2.2.1, true, v189.2.2.2.2.2.1, v189.2.2.2.2.2.2.1, v189.2.2.2.2.2.2.2))
                )
            )
        )
      )
  )
set_option maxHeartbeats 4000000 in
theorem e74_le (n : Nat) (a0 : ((Int × List ByteArray × Int × Int) × List (List ByteArray) × List ((List ByteArray) × Int) × Bool × Bool × Int × Int)) (a1 : Int) (a2 : Int) (a3 : Bool) : Le (e74 n a0 a1 a2 a3) (g74 a0 a1 a2 a3) := by
  unfold e74 g74
  repeat' with_reducible first | exact e11_le _ _ | exact e73_le _ _ _ _ | exact e103_le _ _ | refine le_bind ?_ (fun _ => ?_) | refine le_ck ?_ | refine le_if ?_ ?_ | refine le_sm (fun _ => ?_) (fun _ => ?_) | refine le_jn (fun _ _ _ => ?_) (fun _ => ?_) | refine le_loop (fun _ => ?_) | exact le_refl | apply_assumption
noncomputable def e75 (n : Nat) (a0 : ((Int × List ByteArray × Int × Int) × List (List ByteArray) × List ((List ByteArray) × Int) × Bool × Bool × Int × Int)) (a1 : Int) (a2 : Int) : Option (Bool × ((Int × List ByteArray × Int × Int) × List (List ByteArray) × List ((List ByteArray) × Int) × Bool × Bool × Int × Int)) :=
  (e13 n (a0.1.1, a0.1.2.1, a0.1.2.2.1, a0.1.2.2.2)).bind fun v1 =>
  if ((a0.2.1.length : Nat) : Int) ≤ a1 then
    some (false, ((a0.1.1, a0.1.2.1, a0.1.2.2.1, a0.1.2.2.2), a0.2.1, a0.2.2.1, false, false, a0.2.2.2.2.2.1, a0.2.2.2.2.2.2))
  else
    (
      ck (0 ≤ a1 ∧ a1 < ((a0.2.1.length : Nat) : Int)) <|
      (e18 n (a0.1.1, a0.1.2.1, a0.1.2.2.1, a0.1.2.2.2)).bind fun v39 =>
      ck (inR .i64 (v39 + v1)) <|
      ck (inR .i64 ((v39 + v1) - a2)) <|
      if ((v39 + v1) - a2) < (((a0.2.1.getD a1.toNat default).length : Nat) : Int) then
        some (false, ((a0.1.1, a0.1.2.1, a0.1.2.2.1, a0.1.2.2.2), a0.2.1, a0.2.2.1, false, false, a0.2.2.2.2.2.1, a0.2.2.2.2.2.2))
      else
        (
          (e69 n ((a0.1.1, a0.1.2.1, a0.1.2.2.1, a0.1.2.2.2), a0.2.1, a0.2.2.1, false, false, a0.2.2.2.2.2.1, a0.2.2.2.2.2.2)).bind fun v44 =>
          (e19 n (v44.1.1, v44.1.2.1, v44.1.2.2.1, v44.1.2.2.2) a2 v1).bind fun v59 =>
          (e12 n (v59.2.1, v59.2.2.1, v59.2.2.2.1, v59.2.2.2.2) a2).bind fun v70 =>
          ck (0 ≤ a1 ∧ a1 < ((v44.2.1.length : Nat) : Int)) <|
          (e21 n (v70.2.1, v70.2.2.1, v70.2.2.2.1, v70.2.2.2.2) (v44.2.1.getD a1.toNat default)).bind fun v80 =>
          some (true, ((v80.2.1, v80.2.2.1, v80.2.2.2.1, v80.2.2.2.2), v44.2.1, v44.2.2.1, v44.2.2.2.1, true, a2, a1))
        )
    )
set_option maxHeartbeats 4000000 in
theorem e75_le (n : Nat) (a0 : ((Int × List ByteArray × Int × Int) × List (List ByteArray) × List ((List ByteArray) × Int) × Bool × Bool × Int × Int)) (a1 : Int) (a2 : Int) : Le (e75 n a0 a1 a2) (g75 a0 a1 a2) := by
  unfold e75 g75
  repeat' with_reducible first | exact e12_le _ _ _ | exact e13_le _ _ | exact e18_le _ _ | exact e19_le _ _ _ _ | exact e21_le _ _ _ | exact e69_le _ _ | refine le_bind ?_ (fun _ => ?_) | refine le_ck ?_ | refine le_if ?_ ?_ | refine le_sm (fun _ => ?_) (fun _ => ?_) | refine le_jn (fun _ _ _ => ?_) (fun _ => ?_) | refine le_loop (fun _ => ?_) | exact le_refl | apply_assumption
noncomputable def e76 (n : Nat) (a0 : ((Int × List ByteArray × Int × Int) × List (List ByteArray) × List ((List ByteArray) × Int) × Bool × Bool × Int × Int)) : Option (Bool × ((Int × List ByteArray × Int × Int) × List (List ByteArray) × List ((List ByteArray) × Int) × Bool × Bool × Int × Int)) :=
  if ¬ (a0.2.2.2.2.1 = true) then
    some (false, ((a0.1.1, a0.1.2.1, a0.1.2.2.1, a0.1.2.2.2), a0.2.1, a0.2.2.1, false, false, a0.2.2.2.2.2.1, a0.2.2.2.2.2.2))
  else
    (
      if ((a0.2.1.length : Nat) : Int) < 2 then
        some (false, ((a0.1.1, a0.1.2.1, a0.1.2.2.1, a0.1.2.2.2), a0.2.1, a0.2.2.1, false, false, a0.2.2.2.2.2.1, a0.2.2.2.2.2.2))
      else
        (
          ck (inR .i64 (a0.2.2.2.2.2.2 + 1)) <|
          ck (((a0.2.1.length : Nat) : Int) ≠ 0) <|
          (e75 n ((a0.1.1, a0.1.2.1, a0.1.2.2.1, a0.1.2.2.2), a0.2.1, a0.2.2.1, a0.2.2.2.1, a0.2.2.2.2.1, a0.2.2.2.2.2.1, a0.2.2.2.2.2.2) (Int.tmod (a0.2.2.2.2.2.2 + 1) ((a0.2.1.length : Nat) : Int)) a0.2.2.2.2.2.1).bind fun v404 =>
          some (v404.1, ((v404.2.1.1, v404.2.1.2.1, v404.2.1.2.2.1, v404.2.1.2.2.2), v404.2.2.1, v404.2.2.2.1, v404.2.2.2.2.1, v404.2.2.2.2.2.1, v404.2.2.2.2.2.2.1, v404.2.2.2.2.2.2.2))
        )
    )
set_option maxHeartbeats 4000000 in
theorem e76_le (n : Nat) (a0 : ((Int × List ByteArray × Int × Int) × List (List ByteArray) × List ((List ByteArray) × Int) × Bool × Bool × Int × Int)) : Le (e76 n a0) (g76 a0) := by
  unfold e76 g76
  repeat' with_reducible first | exact e75_le _ _ _ _ | refine le_bind ?_ (fun _ => ?_) | refine le_ck ?_ | refine le_if ?_ ?_ | refine le_sm (fun _ => ?_) (fun _ => ?_) | refine le_jn (fun _ _ _ => ?_) (fun _ => ?_) | refine le_loop (fun _ => ?_) | exact le_refl | apply_assumption
noncomputable def e80 (n : Nat) (a0 : ((Int × List ByteArray × Int × Int) × List (List ByteArray) × List ((List ByteArray) × Int) × Bool × Bool × Int × Int)) (a1 : List ByteArray) (a2 : Int) : Option (((Int × List ByteArray × Int × Int) × List (List ByteArray) × List ((List ByteArray) × Int) × Bool × Bool × Int × Int)) :=
  (e20 n (a0.1.1, a0.1.2.1, a0.1.2.2.1, a0.1.2.2.2)).bind fun v28 =>
  (e19 n (a0.1.1, a0.1.2.1, a0.1.2.2.1, a0.1.2.2.2) 0 v28).bind fun v30 =>
  (e21 n (v30.2.1, v30.2.2.1, v30.2.2.2.1, v30.2.2.2.2) a1).bind fun v41 =>
  (e12 n (v41.2.1, v41.2.2.1, v41.2.2.2.1, v41.2.2.2.2) a2).bind fun v43 =>
  some ((v43.2.1, v43.2.2.1, v43.2.2.2.1, v43.2.2.2.2), a0.2.1, a0.2.2.1, a0.2.2.2.1, a0.2.2.2.2.1, a0.2.2.2.2.2.1, a0.2.2.2.2.2.2)
set_option maxHeartbeats 4000000 in
theorem e80_le (n : Nat) (a0 : ((Int × List ByteArray × Int × Int) × List (List ByteArray) × List ((List ByteArray) × Int) × Bool × Bool × Int × Int)) (a1 : List ByteArray) (a2 : Int) : Le (e80 n a0 a1 a2) (g80 a0 a1 a2) := by
  unfold e80 g80
  repeat' with_reducible first | exact e12_le _ _ _ | exact e19_le _ _ _ _ | exact e20_le _ _ | exact e21_le _ _ _ | refine le_bind ?_ (fun _ => ?_) | refine le_ck ?_ | refine le_if ?_ ?_ | refine le_sm (fun _ => ?_) (fun _ => ?_) | refine le_jn (fun _ _ _ => ?_) (fun _ => ?_) | refine le_loop (fun _ => ?_) | exact le_refl | apply_assumption
noncomputable def e77 (n : Nat) (a0 : ((Int × List ByteArray × Int × Int) × List (List ByteArray) × List ((List ByteArray) × Int) × Bool × Bool × Int × Int)) : Option (Bool × ((Int × List ByteArray × Int × Int) × List (List ByteArray) × List ((List ByteArray) × Int) × Bool × Bool × Int × Int)) :=
  if ((a0.2.2.1.length : Nat) : Int) = 0 then
    some (false, ((a0.1.1, a0.1.2.1, a0.1.2.2.1, a0.1.2.2.2), a0.2.1, a0.2.2.1, false, false, a0.2.2.2.2.2.1, a0.2.2.2.2.2.2))
  else
    (
      ck (inR .i64 (((a0.2.2.1.length : Nat) : Int) - 1)) <|
      ck (0 ≤ ((a0.2.2.1.length : Nat) : Int) - 1 ∧ ((a0.2.2.1.length : Nat) : Int) - 1 < ((a0.2.2.1.length : Nat) : Int)) <|
      ck (inR .i64 (((a0.2.2.1.length : Nat) : Int) - 1)) <|
      ck (0 ≤ (0 : Int) ∧ (0 : Int) ≤ ((a0.2.2.1.length : Nat) : Int) - 1 ∧ ((a0.2.2.1.length : Nat) : Int) - 1 ≤ ((a0.2.2.1.length : Nat) : Int)) <|
      (e80 n ((a0.1.1, a0.1.2.1, a0.1.2.2.1, a0.1.2.2.2), a0.2.1, (a0.2.2.1.take ((((a0.2.2.1.length : Nat) : Int) - 1).toNat - (0 : Int).toNat)), false, false, a0.2.2.2.2.2.1, a0.2.2.2.2.2.2) ((a0.2.2.1.getD (((a0.2.2.1.length : Nat) : Int) - 1).toNat default).1) ((a0.2.2.1.getD (((a0.2.2.1.length : Nat) : Int) - 1).toNat default).2)).bind fun v106 =>
      some (true, ((v106.1.1, v106.1.2.1, v106.1.2.2.1, v106.1.2.2.2), v106.2.1, v106.2.2.1, v106.2.2.2.1, v106.2.2.2.2.1, v106.2.2.2.2.2.1, v106.2.2.2.2.2.2))
    )
set_option maxHeartbeats 4000000 in
theorem e77_le (n : Nat) (a0 : ((Int × List ByteArray × Int × Int) × List (List ByteArray) × List ((List ByteArray) × Int) × Bool × Bool × Int × Int)) : Le (e77 n a0) (g77 a0) := by
  unfold e77 g77
  repeat' with_reducible first | exact e80_le _ _ _ _ | refine le_bind ?_ (fun _ => ?_) | refine le_ck ?_ | refine le_if ?_ ?_ | refine le_sm (fun _ => ?_) (fun _ => ?_) | refine le_jn (fun _ _ _ => ?_) (fun _ => ?_) | refine le_loop (fun _ => ?_) | exact le_refl | apply_assumption
noncomputable def e78 (n : Nat) (a0 : ((Int × List ByteArray × Int × Int) × List (List ByteArray) × List ((List ByteArray) × Int) × Bool × Bool × Int × Int)) : Option (Bool × ((Int × List ByteArray × Int × Int) × List (List ByteArray) × List ((List ByteArray) × Int) × Bool × Bool × Int × Int)) :=
  (e13 n (a0.1.1, a0.1.2.1, a0.1.2.2.1, a0.1.2.2.2)).bind fun v121 =>
  (e20 n (a0.1.1, a0.1.2.1, a0.1.2.2.1, a0.1.2.2.2)).bind fun v123 =>
  if v121 = 0 then
    some (false, ((a0.1.1, a0.1.2.1, a0.1.2.2.1, a0.1.2.2.2), a0.2.1, a0.2.2.1, false, false, a0.2.2.2.2.2.1, a0.2.2.2.2.2.2))
  else
    (
      if v123 < 2 then
        some (false, ((a0.1.1, a0.1.2.1, a0.1.2.2.1, a0.1.2.2.2), a0.2.1, a0.2.2.1, false, false, a0.2.2.2.2.2.1, a0.2.2.2.2.2.2))
      else
        (
          ck (inR .i64 (v123 - 1)) <|
          (e69 n ((a0.1.1, a0.1.2.1, a0.1.2.2.1, a0.1.2.2.2), a0.2.1, a0.2.2.1, false, false, a0.2.2.2.2.2.1, a0.2.2.2.2.2.2)).bind fun v131 =>
          ck (inR .i64 ((gmin v121 (v123 - 1)) - 1)) <|
          ck (inR .i64 ((gmin v121 (v123 - 1)) + 1)) <|
          (e19 n (v131.1.1, v131.1.2.1, v131.1.2.2.1, v131.1.2.2.2) ((gmin v121 (v123 - 1)) - 1) ((gmin v121 (v123 - 1)) + 1)).bind fun v148 =>
          ck (inR .i64 ((gmin v121 (v123 - 1)) - 1)) <|
          (e12 n (v148.2.1, v148.2.2.1, v148.2.2.2.1, v148.2.2.2.2) ((gmin v121 (v123 - 1)) - 1)).bind fun v160 =>
          ck (0 ≤ (1 : Int) ∧ 1 < ((v148.1.length : Nat) : Int)) <|
          ck (0 ≤ (0 : Int) ∧ 0 < ((v148.1.length : Nat) : Int)) <|
          (e21 n (v160.2.1, v160.2.2.1, v160.2.2.2.1, v160.2.2.2.2) ([v148.1.getD (1 : Int).toNat default, v148.1.getD (0 : Int).toNat default])).bind fun v164 =>
          some (true, ((v164.2.1, v164.2.2.1, v164.2.2.2.1, v164.2.2.2.2), v131.2.1, v131.2.2.1, v131.2.2.2.1, v131.2.2.2.2.1, v131.2.2.2.2.2.1, v131.2.2.2.2.2.2))
        )
    )
set_option maxHeartbeats 4000000 in
theorem e78_le (n : Nat) (a0 : ((Int × List ByteArray × Int × Int) × List (List ByteArray) × List ((List ByteArray) × Int) × Bool × Bool × Int × Int)) : Le (e78 n a0) (g78 a0) := by
  unfold e78 g78
  repeat' with_reducible first | exact e12_le _ _ _ | exact e13_le _ _ | exact e19_le _ _ _ _ | exact e20_le _ _ | exact e21_le _ _ _ | exact e69_le _ _ | refine le_bind ?_ (fun _ => ?_) | refine le_ck ?_ | refine le_if ?_ ?_ | refine le_sm (fun _ => ?_) (fun _ => ?_) | refine le_jn (fun _ _ _ => ?_) (fun _ => ?_) | refine le_loop (fun _ => ?_) | exact le_refl | apply_assumption
noncomputable def e34 (n : Nat) (a0 : ((Int × List ByteArray × Int × Int) × List (List ByteArray) × List ((List ByteArray) × Int) × Bool × Bool × Int × Int)) (a1 : Int) : Option (Bool × ((Int × List ByteArray × Int × Int) × List (List ByteArray) × List ((List ByteArray) × Int) × Bool × Bool × Int × Int)) :=
  (e13 n (a0.1.1, a0.1.2.1, a0.1.2.2.1, a0.1.2.2.2)).bind fun v1 =>
  (e20 n (a0.1.1, a0.1.2.1, a0.1.2.2.1, a0.1.2.2.2)).bind fun v3 =>
  if a1 = 1 then
    (
      ck (inR .i64 (v1 - 1)) <|
      (e70 n ((a0.1.1, a0.1.2.1, a0.1.2.2.1, a0.1.2.2.2), a0.2.1, a0.2.2.1, a0.2.2.2.1, a0.2.2.2.2.1, a0.2.2.2.2.2.1, a0.2.2.2.2.2.2) (v1 - 1)).bind fun v343 =>
      some (v343.1, ((v343.2.1.1, v343.2.1.2.1, v343.2.1.2.2.1, v343.2.1.2.2.2), v343.2.2.1, v343.2.2.2.1, v343.2.2.2.2.1, v343.2.2.2.2.2.1, v343.2.2.2.2.2.2.1, v343.2.2.2.2.2.2.2))
    )
  else
    (
      if a1 = 2 then
        (
          ck (inR .i64 (v1 + 1)) <|
          (e70 n ((a0.1.1, a0.1.2.1, a0.1.2.2.1, a0.1.2.2.2), a0.2.1, a0.2.2.1, a0.2.2.2.1, a0.2.2.2.2.1, a0.2.2.2.2.2.1, a0.2.2.2.2.2.2) (v1 + 1)).bind fun v360 =>
          some (v360.1, ((v360.2.1.1, v360.2.1.2.1, v360.2.1.2.2.1, v360.2.1.2.2.2), v360.2.2.1, v360.2.2.2.1, v360.2.2.2.2.1, v360.2.2.2.2.2.1, v360.2.2.2.2.2.2.1, v360.2.2.2.2.2.2.2))
        )
      else
        (
          if a1 = 3 then
            (
              (e71 n ((a0.1.1, a0.1.2.1, a0.1.2.2.1, a0.1.2.2.2), a0.2.1, a0.2.2.1, a0.2.2.2.1, a0.2.2.2.2.1, a0.2.2.2.2.2.1, a0.2.2.2.2.2.2)).bind fun v376 =>
              (e70 n ((v376.2.1.1, v376.2.1.2.1, v376.2.1.2.2.1, v376.2.1.2.2.2), v376.2.2.1, v376.2.2.2.1, v376.2.2.2.2.1, v376.2.2.2.2.2.1, v376.2.2.2.2.2.2.1, v376.2.2.2.2.2.2.2) v376.1).bind fun v391 =>
              some (v391.1, ((v391.2.1.1, v391.2.1.2.1, v391.2.1.2.2.1, v391.2.1.2.2.2), v391.2.2.1, v391.2.2.2.1, v391.2.2.2.2.1, v391.2.2.2.2.2.1, v391.2.2.2.2.2.2.1, v391.2.2.2.2.2.2.2))
            )
          else
            (
              if a1 = 4 then
                (
                  (e72 n ((a0.1.1, a0.1.2.1, a0.1.2.2.1, a0.1.2.2.2), a0.2.1, a0.2.2.1, a0.2.2.2.1, a0.2.2.2.2.1, a0.2.2.2.2.2.1, a0.2.2.2.2.2.2)).bind fun v407 =>
                  (e70 n ((v407.2.1.1, v407.2.1.2.1, v407.2.1.2.2.1, v407.2.1.2.2.2), v407.2.2.1, v407.2.2.2.1, v407.2.2.2.2.1, v407.2.2.2.2.2.1, v407.2.2.2.2.2.2.1, v407.2.2.2.2.2.2.2) v407.1).bind fun v422 =>
                  some (v422.1, ((v422.2.1.1, v422.2.1.2.1, v422.2.1.2.2.1, v422.2.1.2.2.2), v422.2.2.1, v422.2.2.2.1, v422.2.2.2.2.1, v422.2.2.2.2.2.1, v422.2.2.2.2.2.2.1, v422.2.2.2.2.2.2.2))
                )
              else
                (
                  if a1 = 5 then
                    (
                      (e70 n ((a0.1.1, a0.1.2.1, a0.1.2.2.1, a0.1.2.2.2), a0.2.1, a0.2.2.1, a0.2.2.2.1, a0.2.2.2.2.1, a0.2.2.2.2.2.1, a0.2.2.2.2.2.2) 0).bind fun v438 =>
                      some (v438.1, ((v438.2.1.1, v438.2.1.2.1, v438.2.1.2.2.1, v438.2.1.2.2.2), v438.2.2.1, v438.2.2.2.1, v438.2.2.2.2.1, v438.2.2.2.2.2.1, v438.2.2.2.2.2.2.1, v438.2.2.2.2.2.2.2))
                    )
                  else
                    (
                      if a1 = 6 then
                        (
                          (e70 n ((a0.1.1, a0.1.2.1, a0.1.2.2.1, a0.1.2.2.2), a0.2.1, a0.2.2.1, a0.2.2.2.1, a0.2.2.2.2.1, a0.2.2.2.2.2.1, a0.2.2.2.2.2.2) v3).bind fun v454 =>
                          some (v454.1, ((v454.2.1.1, v454.2.1.2.1, v454.2.1.2.2.1, v454.2.1.2.2.2), v454.2.2.1, v454.2.2.2.1, v454.2.2.2.2.1, v454.2.2.2.2.2.1, v454.2.2.2.2.2.2.1, v454.2.2.2.2.2.2.2))
                        )
                      else
                        (
                          if a1 = 7 then
                            (
                              ck (inR .i64 (v1 - 1)) <|
                              (e73 n ((a0.1.1, a0.1.2.1, a0.1.2.2.1, a0.1.2.2.2), a0.2.1, a0.2.2.1, a0.2.2.2.1, a0.2.2.2.2.1, a0.2.2.2.2.2.1, a0.2.2.2.2.2.2) (v1 - 1) v1).bind fun v471 =>
                              some (v471.1, ((v471.2.1.1, v471.2.1.2.1, v471.2.1.2.2.1, v471.2.1.2.2.2), v471.2.2.1, v471.2.2.2.1, v471.2.2.2.2.1, v471.2.2.2.2.2.1, v471.2.2.2.2.2.2.1, v471.2.2.2.2.2.2.2))
                            )
                          else
                            (
                              if a1 = 8 then
                                (
                                  ck (inR .i64 (v1 + 1)) <|
                                  (e73 n ((a0.1.1, a0.1.2.1, a0.1.2.2.1, a0.1.2.2.2), a0.2.1, a0.2.2.1, a0.2.2.2.1, a0.2.2.2.2.1, a0.2.2.2.2.2.1, a0.2.2.2.2.2.2) v1 (v1 + 1)).bind fun v488 =>
                                  some (v488.1, ((v488.2.1.1, v488.2.1.2.1, v488.2.1.2.2.1, v488.2.1.2.2.2), v488.2.2.1, v488.2.2.2.1, v488.2.2.2.2.1, v488.2.2.2.2.2.1, v488.2.2.2.2.2.2.1, v488.2.2.2.2.2.2.2))
                                )
                              else
                                (
                                  if a1 = 9 then
                                    (
                                      (e74 n ((a0.1.1, a0.1.2.1, a0.1.2.2.1, a0.1.2.2.2), a0.2.1, a0.2.2.1, a0.2.2.2.1, a0.2.2.2.2.1, a0.2.2.2.2.2.1, a0.2.2.2.2.2.2) v1 v3 false).bind fun v504 =>
                                      some (v504.1, ((v504.2.1.1, v504.2.1.2.1, v504.2.1.2.2.1, v504.2.1.2.2.2), v504.2.2.1, v504.2.2.2.1, v504.2.2.2.2.1, v504.2.2.2.2.2.1, v504.2.2.2.2.2.2.1, v504.2.2.2.2.2.2.2))
                                    )
                                  else
                                    (
                                      if a1 = 10 then
                                        (
                                          (e74 n ((a0.1.1, a0.1.2.1, a0.1.2.2.1, a0.1.2.2.2), a0.2.1, a0.2.2.1, a0.2.2.2.1, a0.2.2.2.2.1, a0.2.2.2.2.2.1, a0.2.2.2.2.2.2) 0 v1 true).bind fun v520 =>
                                          some (v520.1, ((v520.2.1.1, v520.2.1.2.1, v520.2.1.2.2.1, v520.2.1.2.2.2), v520.2.2.1, v520.2.2.2.1, v520.2.2.2.2.1, v520.2.2.2.2.2.1, v520.2.2.2.2.2.2.1, v520.2.2.2.2.2.2.2))
                                        )
                                      else
                                        (
                                          if a1 = 11 then
                                            (
                                              (e72 n ((a0.1.1, a0.1.2.1, a0.1.2.2.1, a0.1.2.2.2), a0.2.1, a0.2.2.1, a0.2.2.2.1, a0.2.2.2.2.1, a0.2.2.2.2.2.1, a0.2.2.2.2.2.2)).bind fun v536 =>
                                              (e74 n ((v536.2.1.1, v536.2.1.2.1, v536.2.1.2.2.1, v536.2.1.2.2.2), v536.2.2.1, v536.2.2.2.1, v536.2.2.2.2.1, v536.2.2.2.2.2.1, v536.2.2.2.2.2.2.1, v536.2.2.2.2.2.2.2) v1 v536.1 false).bind fun v551 =>
                                              some (v551.1, ((v551.2.1.1, v551.2.1.2.1, v551.2.1.2.2.1, v551.2.1.2.2.2), v551.2.2.1, v551.2.2.2.1, v551.2.2.2.2.1, v551.2.2.2.2.2.1, v551.2.2.2.2.2.2.1, v551.2.2.2.2.2.2.2))
                                            )
                                          else
                                            (
                                              if a1 = 12 then
                                                (
                                                  (e71 n ((a0.1.1, a0.1.2.1, a0.1.2.2.1, a0.1.2.2.2), a0.2.1, a0.2.2.1, a0.2.2.2.1, a0.2.2.2.2.1, a0.2.2.2.2.2.1, a0.2.2.2.2.2.2)).bind fun v567 =>
                                                  (e74 n ((v567.2.1.1, v567.2.1.2.1, v567.2.1.2.2.1, v567.2.1.2.2.2), v567.2.2.1, v567.2.2.2.1, v567.2.2.2.2.1, v567.2.2.2.2.2.1, v567.2.2.2.2.2.2.1, v567.2.2.2.2.2.2.2) v567.1 v1 true).bind fun v582 =>
                                                  some (v582.1, ((v582.2.1.1, v582.2.1.2.1, v582.2.1.2.2.1, v582.2.1.2.2.2), v582.2.2.1, v582.2.2.2.1, v582.2.2.2.2.1, v582.2.2.2.2.2.1, v582.2.2.2.2.2.2.1, v582.2.2.2.2.2.2.2))
                                                )
                                              else
                                                (
                                                  if a1 = 13 then
                                                    (
                                                      (e75 n ((a0.1.1, a0.1.2.1, a0.1.2.2.1, a0.1.2.2.2), a0.2.1, a0.2.2.1, a0.2.2.2.1, a0.2.2.2.2.1, a0.2.2.2.2.2.1, a0.2.2.2.2.2.2) 0 v1).bind fun v598 =>
                                                      some (v598.1, ((v598.2.1.1, v598.2.1.2.1, v598.2.1.2.2.1, v598.2.1.2.2.2), v598.2.2.1, v598.2.2.2.1, v598.2.2.2.2.1, v598.2.2.2.2.2.1, v598.2.2.2.2.2.2.1, v598.2.2.2.2.2.2.2))
                                                    )
                                                  else
                                                    (
                                                      if a1 = 14 then
                                                        (
                                                          (e76 n ((a0.1.1, a0.1.2.1, a0.1.2.2.1, a0.1.2.2.2), a0.2.1, a0.2.2.1, a0.2.2.2.1, a0.2.2.2.2.1, a0.2.2.2.2.2.1, a0.2.2.2.2.2.2)).bind fun v614 =>
                                                          some (v614.1, ((v614.2.1.1, v614.2.1.2.1, v614.2.1.2.2.1, v614.2.1.2.2.2), v614.2.2.1, v614.2.2.2.1, v614.2.2.2.2.1, v614.2.2.2.2.2.1, v614.2.2.2.2.2.2.1, v614.2.2.2.2.2.2.2))
                                                        )
                                                      else
                                                        (
                                                          if a1 = 15 then
                                                            (
                                                              (e77 n ((a0.1.1, a0.1.2.1, a0.1.2.2.1, a0.1.2.2.2), a0.2.1, a0.2.2.1, a0.2.2.2.1, a0.2.2.2.2.1, a0.2.2.2.2.2.1, a0.2.2.2.2.2.2)).bind fun v630 =>
                                                              some (v630.1, ((v630.2.1.1, v630.2.1.2.1, v630.2.1.2.2.1, v630.2.1.2.2.2), v630.2.2.1, v630.2.2.2.1, v630.2.2.2.2.1, v630.2.2.2.2.2.1, v630.2.2.2.2.2.2.1, v630.2.2.2.2.2.2.2))
                                                            )
                                                          else
                                                            (
                                                              if a1 = 16 then
                                                                (
                                                                  (e78 n ((a0.1.1, a0.1.2.1, a0.1.2.2.1, a0.1.2.2.2), a0.2.1, a0.2.2.1, a0.2.2.2.1, a0.2.2.2.2.1, a0.2.2.2.2.2.1, a0.2.2.2.2.2.2)).bind fun v646 =>
                                                                  some (v646.1, ((v646.2.1.1, v646.2.1.2.1, v646.2.1.2.2.1, v646.2.1.2.2.2), v646.2.2.1, v646.2.2.2.1, v646.2.2.2.2.1, v646.2.2.2.2.2.1, v646.2.2.2.2.2.2.1, v646.2.2.2.2.2.2.2))
                                                                )
                                                              else
                                                                (
                                                                  if a1 = 17 then
                                                                    (
                                                                      (e73 n ((a0.1.1, a0.1.2.1, a0.1.2.2.1, a0.1.2.2.2), a0.2.1, a0.2.2.1, a0.2.2.2.1, a0.2.2.2.2.1, a0.2.2.2.2.2.1, a0.2.2.2.2.2.2) 0 v3).bind fun v662 =>
                                                                      some (v662.1, ((v662.2.1.1, v662.2.1.2.1, v662.2.1.2.2.1, v662.2.1.2.2.2), v662.2.2.1, v662.2.2.2.1, v662.2.2.2.2.1, v662.2.2.2.2.2.1, v662.2.2.2.2.2.2.1, v662.2.2.2.2.2.2.2))
                                                                    )
                                                                  else
                                                                    some (false, ((a0.1.1, a0.1.2.1, a0.1.2.2.1, a0.1.2.2.2), a0.2.1, a0.2.2.1, false, false, a0.2.2.2.2.2.1, a0.2.2.2.2.2.2))
                                                                )
                                                            )
                                                        )
                                                    )
                                                )
                                            )
                                        )
                                    )
                                )
                            )
                        )
                    )
                )
            )
        )
    )
set_option maxHeartbeats 4000000 in
theorem e34_le (n : Nat) (a0 : ((Int × List ByteArray × Int × Int) × List (List ByteArray) × List ((List ByteArray) × Int) × Bool × Bool × Int × Int)) (a1 : Int) : Le (e34 n a0 a1) (g34 a0 a1) := by
  unfold e34 g34
  repeat' with_reducible first | exact e13_le _ _ | exact e20_le _ _ | exact e70_le _ _ _ | exact e71_le _ _ | exact e72_le _ _ | exact e73_le _ _ _ _ | exact e74_le _ _ _ _ _ | exact e75_le _ _ _ _ | exact e76_le _ _ | exact e77_le _ _ | exact e78_le _ _ | refine le_bind ?_ (fun _ => ?_) | refine le_ck ?_ | refine le_if ?_ ?_ | refine le_sm (fun _ => ?_) (fun _ => ?_) | refine le_jn (fun _ _ _ => ?_) (fun _ => ?_) | refine le_loop (fun _ => ?_) | exact le_refl | apply_assumption
noncomputable def e36 (n : Nat) : Option (Bool) :=
  (e32 n ((20, [], 0, 0), ([] : List (List ByteArray)), ([] : List ((List ByteArray) × Int)), false, false, 0, 0) (lit [97, 98, 32, 99, 100])).bind fun v1 =>
  (e34 n ((v1.2.1.1, v1.2.1.2.1, v1.2.1.2.2.1, v1.2.1.2.2.2), v1.2.2.1, v1.2.2.2.1, v1.2.2.2.2.1, v1.2.2.2.2.2.1, v1.2.2.2.2.2.2.1, v1.2.2.2.2.2.2.2) 12).bind fun v16 =>
  (e34 n ((v16.2.1.1, v16.2.1.2.1, v16.2.1.2.2.1, v16.2.1.2.2.2), v16.2.2.1, v16.2.2.2.1, v16.2.2.2.2.1, v16.2.2.2.2.2.1, v16.2.2.2.2.2.2.1, v16.2.2.2.2.2.2.2) 12).bind fun v31 =>
  (e16 n (v31.2.1.1, v31.2.1.2.1, v31.2.1.2.2.1, v31.2.1.2.2.2)).bind fun v48 =>
  (e34 n ((v31.2.1.1, v31.2.1.2.1, v31.2.1.2.2.1, v31.2.1.2.2.2), v31.2.2.1, v31.2.2.2.1, v31.2.2.2.2.1, v31.2.2.2.2.2.1, v31.2.2.2.2.2.2.1, v31.2.2.2.2.2.2.2) 13).bind fun v50 =>
  jn (α := _) (β := List ByteArray) (fun k255 =>
      (itN n (σ := List ByteArray × Int) (ρ := List ByteArray) (fun s258 =>
          if s258.2 < ((v50.2.2.1.length : Nat) : Int) then
            (
              ck (0 ≤ s258.2 ∧ s258.2 < ((v50.2.2.1.length : Nat) : Int)) <|
              (e81 n (v50.2.2.1.getD s258.2.toNat default) (lit [])).bind fun v304 =>
              ck ((s258.1.length + 1) * 16 ≤ 140737488355328) <|
              ck (inR .i64 (s258.2 + 1)) <|
              some (.go ((s258.1 ++ [v304]), s258.2 + 1))
            )
          else
            some (.out s258.1)
        ) ([], 0)).bind fun o294 =>
        k255 o294
  ) (fun v254 =>
    if v1.1 = true then
      (
        if v16.1 = true then
          (
            if v31.1 = true then
              (
                if v48.data.toList = (lit []).data.toList then
                  (
                    if v50.1 = true then
                      (
                        (e16 n (v50.2.1.1, v50.2.1.2.1, v50.2.1.2.2.1, v50.2.1.2.2.2)).bind fun v318 =>
                        if v318.data.toList = (lit [97, 98, 32, 99, 100]).data.toList then
                          (
                            if ((v254.length : Nat) : Int) = 1 then
                              (
                                ck (0 ≤ (0 : Int) ∧ 0 < ((v254.length : Nat) : Int)) <|
                                if (v254.getD (0 : Int).toNat default).data.toList = (lit [97, 98, 32, 99, 100]).data.toList then
                                  (
                                    (e34 n ((v50.2.1.1, v50.2.1.2.1, v50.2.1.2.2.1, v50.2.1.2.2.2), v50.2.2.1, v50.2.2.2.1, v50.2.2.2.2.1, v50.2.2.2.2.2.1, v50.2.2.2.2.2.2.1, v50.2.2.2.2.2.2.2) 14).bind fun v324 =>
                                    if ¬ (v324.1 = true) then
                                      some (decide (((v324.2.2.2.1.length : Nat) : Int) = 4))
                                    else
                                      some false
                                  )
                                else
                                  some false
                              )
                            else
                              some false
                          )
                        else
                          some false
                      )
                    else
                      some false
                  )
                else
                  some false
              )
            else
              some false
          )
        else
          some false
      )
    else
      some false
  )
set_option maxHeartbeats 4000000 in
theorem e36_le (n : Nat)  : Le (e36 n ) (g36 ) := by
  unfold e36 g36
  repeat' with_reducible first | exact e16_le _ _ | exact e32_le _ _ _ | exact e34_le _ _ _ | exact e81_le _ _ _ | refine le_bind ?_ (fun _ => ?_) | refine le_ck ?_ | refine le_if ?_ ?_ | refine le_sm (fun _ => ?_) (fun _ => ?_) | refine le_jn (fun _ _ _ => ?_) (fun _ => ?_) | refine le_loop (fun _ => ?_) | exact le_refl | apply_assumption
end Go.Proofs.Ytenjkphlbdhaiaa
end
section
namespace Go.Proofs.Ytenjkphlbdhaiaa
open Go Go.Eng
theorem awakeE : g36 = some true := e36_le 300 true (by kernel_rfl)
end Go.Proofs.Ytenjkphlbdhaiaa
end
section
namespace Go.Proofs.Ytenjkphlbdhaiaa
open Go Go.Eng
def c67 (p : (Int × ByteArray × Int)) : List Value := [.int .u8 p.1, .string p.2.1, .int .i64 p.2.2]
theorem c67_len : ∀ a, (c67 a).length = 3 := fun _ => rfl
theorem mo1E14 {p q : Prop} (k : q) (h : p := by first | exact rfl | exact Iff.rfl | exact ⟨rfl, rfl⟩ | exact decide_eq_true_iff | (constructor <;> first | exact rfl | (simp only [ei, eb, es, ec, c25, c67, c105, c135, gmin, gmax, List.map_append, List.flatMap_append, List.nil_append, List.append_nil, List.append_assoc]; done) | omega | (simp only [List.nil_append, List.length_append, List.length_cons, List.length_nil]; omega) | (simp [ei, eb, es, ec, c25, c67, c105, c135, gmin, gmax]; done)) | exact rfl | (simp only [ei, eb, es, ec, c25, c67, c105, c135, gmin, gmax, List.map_append, List.flatMap_append, List.nil_append, List.append_nil, List.append_assoc]; done) | omega | (simp only [List.nil_append, List.length_append, List.length_cons, List.length_nil]; omega) | (simp [ei, eb, es, ec, c25, c67, c105, c135, gmin, gmax]; done) | simp [ei, eb, es, ec, c25, c67, c105, c135, gmin, gmax]) : Ob p ∧ q := ⟨⟨h⟩, k⟩
theorem mf1E14 {p q : Prop} (k : q) (h : p := by first | (rw [← hfin] <;> first | exact rfl | exact Iff.rfl | exact ⟨rfl, rfl⟩ | exact decide_eq_true_iff | (constructor <;> first | exact rfl | (simp only [ei, eb, es, ec, c25, c67, c105, c135, gmin, gmax, List.map_append, List.flatMap_append, List.nil_append, List.append_nil, List.append_assoc]; done) | omega | (simp only [List.nil_append, List.length_append, List.length_cons, List.length_nil]; omega) | (simp [ei, eb, es, ec, c25, c67, c105, c135, gmin, gmax]; done)) | exact rfl | (simp only [ei, eb, es, ec, c25, c67, c105, c135, gmin, gmax, List.map_append, List.flatMap_append, List.nil_append, List.append_nil, List.append_assoc]; done) | omega | (simp only [List.nil_append, List.length_append, List.length_cons, List.length_nil]; omega) | (simp [ei, eb, es, ec, c25, c67, c105, c135, gmin, gmax]; done) | simp [ei, eb, es, ec, c25, c67, c105, c135, gmin, gmax]) | first | exact rfl | exact Iff.rfl | exact ⟨rfl, rfl⟩ | exact decide_eq_true_iff | (constructor <;> first | exact rfl | (simp only [ei, eb, es, ec, c25, c67, c105, c135, gmin, gmax, List.map_append, List.flatMap_append, List.nil_append, List.append_nil, List.append_assoc]; done) | omega | (simp only [List.nil_append, List.length_append, List.length_cons, List.length_nil]; omega) | (simp [ei, eb, es, ec, c25, c67, c105, c135, gmin, gmax]; done)) | exact rfl | (simp only [ei, eb, es, ec, c25, c67, c105, c135, gmin, gmax, List.map_append, List.flatMap_append, List.nil_append, List.append_nil, List.append_assoc]; done) | omega | (simp only [List.nil_append, List.length_append, List.length_cons, List.length_nil]; omega) | (simp [ei, eb, es, ec, c25, c67, c105, c135, gmin, gmax]; done) | simp [ei, eb, es, ec, c25, c67, c105, c135, gmin, gmax]) : Ob p ∧ q := ⟨⟨h⟩, k⟩
noncomputable def g8 (a0 : List (Int × ByteArray × Int)) : Option (Bool) :=
 (g36).bind fun v6 =>
 if ¬ (v6 = true) then
  some false
 else
  (
   jn (α := _) (β := Int × List ByteArray × Int × Int × List (List ByteArray) × List ((List ByteArray) × Int) × Bool × Bool × Int × Int) (fun k649 =>
     (loopO (σ := Int × List ByteArray × Int × Int × List (List ByteArray) × List ((List ByteArray) × Int) × Bool × Bool × Int × Int × Int) (ρ := (Int × List ByteArray × Int × Int × List (List ByteArray) × List ((List ByteArray) × Int) × Bool × Bool × Int × Int) ⊕ (Int × List ByteArray × Int × Int × List (List ByteArray) × List ((List ByteArray) × Int) × Bool × Bool × Int × Int)) (fun s652 =>
       if s652.2.2.2.2.2.2.2.2.2.2 < ((a0.length : Nat) : Int) then
        (
         if s652.2.2.2.2.2.2.2.2.2.2 < 60 then
          (
           (g16 (s652.1, s652.2.1, s652.2.2.1, s652.2.2.2.1)).bind fun v936 =>
           (g13 (s652.1, s652.2.1, s652.2.2.1, s652.2.2.2.1)).bind fun v938 =>
           jn (α := _) (β := Int × List ByteArray × Int × Int × List (List ByteArray) × List ((List ByteArray) × Int) × Bool × Bool × Int × Int × Bool) (fun k999 =>
             ck (0 ≤ s652.2.2.2.2.2.2.2.2.2.2 ∧ s652.2.2.2.2.2.2.2.2.2.2 < ((a0.length : Nat) : Int)) <|
             jn (α := _) (β := Bool) (fun k1003 =>
               if (Int.tmod ((a0.getD s652.2.2.2.2.2.2.2.2.2.2.toNat default).1) 8) = 0 then
                k1003 (decide ((Int.tmod ((a0.getD s652.2.2.2.2.2.2.2.2.2.2.toNat default).1) 8) = 0))
               else
                k1003 (decide ((Int.tmod ((a0.getD s652.2.2.2.2.2.2.2.2.2.2.toNat default).1) 8) = 1))
             ) (fun v1002 =>
              if v1002 = true then
               (
                (g33 ((a0.getD s652.2.2.2.2.2.2.2.2.2.2.toNat default).2.1)).bind fun v1006 =>
                (g32 ((s652.1, s652.2.1, s652.2.2.1, s652.2.2.2.1), s652.2.2.2.2.1, s652.2.2.2.2.2.1, s652.2.2.2.2.2.2.1, s652.2.2.2.2.2.2.2.1, s652.2.2.2.2.2.2.2.2.1, s652.2.2.2.2.2.2.2.2.2.1) v1006).bind fun v1008 =>
                k999 (v1008.2.1.1, v1008.2.1.2.1, v1008.2.1.2.2.1, v1008.2.1.2.2.2, v1008.2.2.1, v1008.2.2.2.1, v1008.2.2.2.2.1, v1008.2.2.2.2.2.1, v1008.2.2.2.2.2.2.1, v1008.2.2.2.2.2.2.2, v1008.1)
               )
              else
               (
                if (Int.tmod ((a0.getD s652.2.2.2.2.2.2.2.2.2.2.toNat default).1) 8) = 6 then
                 (
                  (g33 ((a0.getD s652.2.2.2.2.2.2.2.2.2.2.toNat default).2.1)).bind fun v1024 =>
                  (g39 ((s652.1, s652.2.1, s652.2.2.1, s652.2.2.2.1), s652.2.2.2.2.1, s652.2.2.2.2.2.1, s652.2.2.2.2.2.2.1, s652.2.2.2.2.2.2.2.1, s652.2.2.2.2.2.2.2.2.1, s652.2.2.2.2.2.2.2.2.2.1) v1024).bind fun v1026 =>
                  k999 (v1026.2.1.1, v1026.2.1.2.1, v1026.2.1.2.2.1, v1026.2.1.2.2.2, v1026.2.2.1, v1026.2.2.2.1, v1026.2.2.2.2.1, v1026.2.2.2.2.2.1, v1026.2.2.2.2.2.2.1, v1026.2.2.2.2.2.2.2, v1026.1)
                 )
                else
                 (
                  (g34 ((s652.1, s652.2.1, s652.2.2.1, s652.2.2.2.1), s652.2.2.2.2.1, s652.2.2.2.2.2.1, s652.2.2.2.2.2.2.1, s652.2.2.2.2.2.2.2.1, s652.2.2.2.2.2.2.2.2.1, s652.2.2.2.2.2.2.2.2.2.1) ((a0.getD s652.2.2.2.2.2.2.2.2.2.2.toNat default).2.2)).bind fun v1041 =>
                  k999 (v1041.2.1.1, v1041.2.1.2.1, v1041.2.1.2.2.1, v1041.2.1.2.2.2, v1041.2.2.1, v1041.2.2.2.1, v1041.2.2.2.2.1, v1041.2.2.2.2.2.1, v1041.2.2.2.2.2.2.1, v1041.2.2.2.2.2.2.2, v1041.1)
                 )
               )
             )
           ) (fun v998 =>
            if ¬ (v998.2.2.2.2.2.2.2.2.2.2 = true) then
             (
              (g16 (v998.1, v998.2.1, v998.2.2.1, v998.2.2.2.1)).bind fun v1063 =>
              if ¬ (v1063.data.toList = v936.data.toList) then
               some (.out (.inl ((v998.1, v998.2.1, v998.2.2.1, v998.2.2.2.1, v998.2.2.2.2.1, v998.2.2.2.2.2.1, v998.2.2.2.2.2.2.1, v998.2.2.2.2.2.2.2.1, v998.2.2.2.2.2.2.2.2.1, v998.2.2.2.2.2.2.2.2.2.1))))
              else
               (
                (g13 (v998.1, v998.2.1, v998.2.2.1, v998.2.2.2.1)).bind fun v1066 =>
                if ¬ v1066 = v938 then
                 some (.out (.inl ((v998.1, v998.2.1, v998.2.2.1, v998.2.2.2.1, v998.2.2.2.2.1, v998.2.2.2.2.2.1, v998.2.2.2.2.2.2.1, v998.2.2.2.2.2.2.2.1, v998.2.2.2.2.2.2.2.2.1, v998.2.2.2.2.2.2.2.2.2.1))))
                else
                 (
                  ck (inR .i64 (s652.2.2.2.2.2.2.2.2.2.2 + 1)) <|
                  some (.go (v998.1, v998.2.1, v998.2.2.1, v998.2.2.2.1, v998.2.2.2.2.1, v998.2.2.2.2.2.1, v998.2.2.2.2.2.2.1, v998.2.2.2.2.2.2.2.1, v998.2.2.2.2.2.2.2.2.1, v998.2.2.2.2.2.2.2.2.2.1, s652.2.2.2.2.2.2.2.2.2.2 + 1))
                 )
               )
             )
            else
             (
              ck (inR .i64 (s652.2.2.2.2.2.2.2.2.2.2 + 1)) <|
              some (.go (v998.1, v998.2.1, v998.2.2.1, v998.2.2.2.1, v998.2.2.2.2.1, v998.2.2.2.2.2.1, v998.2.2.2.2.2.2.1, v998.2.2.2.2.2.2.2.1, v998.2.2.2.2.2.2.2.2.1, v998.2.2.2.2.2.2.2.2.2.1, s652.2.2.2.2.2.2.2.2.2.2 + 1))
             )
           )
          )
         else
          some (.out (.inr ((s652.1, s652.2.1, s652.2.2.1, s652.2.2.2.1, s652.2.2.2.2.1, s652.2.2.2.2.2.1, s652.2.2.2.2.2.2.1, s652.2.2.2.2.2.2.2.1, s652.2.2.2.2.2.2.2.2.1, s652.2.2.2.2.2.2.2.2.2.1))))
        )
       else
        some (.out (.inr ((s652.1, s652.2.1, s652.2.2.1, s652.2.2.2.1, s652.2.2.2.2.1, s652.2.2.2.2.2.1, s652.2.2.2.2.2.2.1, s652.2.2.2.2.2.2.2.1, s652.2.2.2.2.2.2.2.2.1, s652.2.2.2.2.2.2.2.2.2.1))))
      ) (50, [], 0, 0, [], [], false, false, 0, 0, 0)).bind fun o933 =>
     sm o933 (fun o1071 =>
       some false
      ) (fun o1078 =>
       k649 (o1078.1, o1078.2.1, o1078.2.2.1, o1078.2.2.2.1, o1078.2.2.2.2.1, o1078.2.2.2.2.2.1, o1078.2.2.2.2.2.2.1, o1078.2.2.2.2.2.2.2.1, o1078.2.2.2.2.2.2.2.2.1, o1078.2.2.2.2.2.2.2.2.2)
      )
   ) (fun v648 =>
    jn (α := _) (β := ByteArray) (fun k1126 =>
      ck (inR .i64 (((v648.2.2.2.2.2.1.length : Nat) : Int) - 1)) <|
      if (((v648.2.2.2.2.2.1.length : Nat) : Int) - 1) < 0 then
       k1126 (lit [])
      else
       (
        if ((v648.2.2.2.2.2.1.length : Nat) : Int) ≤ (((v648.2.2.2.2.2.1.length : Nat) : Int) - 1) then
         k1126 (lit [])
        else
         (
          ck (inR .i64 (((v648.2.2.2.2.2.1.length : Nat) : Int) - 1)) <|
          ck (inR .i64 ((((v648.2.2.2.2.2.1.length : Nat) : Int) - 1) - (((v648.2.2.2.2.2.1.length : Nat) : Int) - 1))) <|
          ck (0 ≤ (((v648.2.2.2.2.2.1.length : Nat) : Int) - 1) - (((v648.2.2.2.2.2.1.length : Nat) : Int) - 1) ∧ (((v648.2.2.2.2.2.1.length : Nat) : Int) - 1) - (((v648.2.2.2.2.2.1.length : Nat) : Int) - 1) < ((v648.2.2.2.2.2.1.length : Nat) : Int)) <|
          (g81 ((v648.2.2.2.2.2.1.getD ((((v648.2.2.2.2.2.1.length : Nat) : Int) - 1) - (((v648.2.2.2.2.2.1.length : Nat) : Int) - 1)).toNat default).1) (lit [])).bind fun v1140 =>
          k1126 v1140
         )
       )
    ) (fun v1125 =>
     jn (α := _) (β := Int × List ByteArray × Int × Int × List (List ByteArray) × List ((List ByteArray) × Int) × Bool × Bool × Int × Int) (fun k1242 =>
       (loopO (σ := Int × List ByteArray × Int × Int × List (List ByteArray) × List ((List ByteArray) × Int) × Bool × Bool × Int × Int × Int) (ρ := (Int × List ByteArray × Int × Int × List (List ByteArray) × List ((List ByteArray) × Int) × Bool × Bool × Int × Int) ⊕ (Int × List ByteArray × Int × Int × List (List ByteArray) × List ((List ByteArray) × Int) × Bool × Bool × Int × Int)) (fun s1245 =>
         if s1245.2.2.2.2.2.2.2.2.2.2 < ((v648.2.2.2.2.2.1.length : Nat) : Int) then
          (
           (g34 ((s1245.1, s1245.2.1, s1245.2.2.1, s1245.2.2.2.1), s1245.2.2.2.2.1, s1245.2.2.2.2.2.1, s1245.2.2.2.2.2.2.1, s1245.2.2.2.2.2.2.2.1, s1245.2.2.2.2.2.2.2.2.1, s1245.2.2.2.2.2.2.2.2.2.1) 15).bind fun v1291 =>
           if ¬ (v1291.1 = true) then
            some (.out (.inl ((v1291.2.1.1, v1291.2.1.2.1, v1291.2.1.2.2.1, v1291.2.1.2.2.2, v1291.2.2.1, v1291.2.2.2.1, v1291.2.2.2.2.1, v1291.2.2.2.2.2.1, v1291.2.2.2.2.2.2.1, v1291.2.2.2.2.2.2.2))))
           else
            (
             ck (inR .i64 (s1245.2.2.2.2.2.2.2.2.2.2 + 1)) <|
             some (.go (v1291.2.1.1, v1291.2.1.2.1, v1291.2.1.2.2.1, v1291.2.1.2.2.2, v1291.2.2.1, v1291.2.2.2.1, v1291.2.2.2.2.1, v1291.2.2.2.2.2.1, v1291.2.2.2.2.2.2.1, v1291.2.2.2.2.2.2.2, s1245.2.2.2.2.2.2.2.2.2.2 + 1))
            )
          )
         else
          some (.out (.inr ((s1245.1, s1245.2.1, s1245.2.2.1, s1245.2.2.2.1, s1245.2.2.2.2.1, s1245.2.2.2.2.2.1, s1245.2.2.2.2.2.2.1, s1245.2.2.2.2.2.2.2.1, s1245.2.2.2.2.2.2.2.2.1, s1245.2.2.2.2.2.2.2.2.2.1))))
        ) (v648.1, v648.2.1, v648.2.2.1, v648.2.2.2.1, v648.2.2.2.2.1, v648.2.2.2.2.2.1, v648.2.2.2.2.2.2.1, v648.2.2.2.2.2.2.2.1, v648.2.2.2.2.2.2.2.2.1, v648.2.2.2.2.2.2.2.2.2, 0)).bind fun o1289 =>
       sm o1289 (fun o1308 =>
         some false
        ) (fun o1315 =>
         k1242 (o1315.1, o1315.2.1, o1315.2.2.1, o1315.2.2.2.1, o1315.2.2.2.2.1, o1315.2.2.2.2.2.1, o1315.2.2.2.2.2.2.1, o1315.2.2.2.2.2.2.2.1, o1315.2.2.2.2.2.2.2.2.1, o1315.2.2.2.2.2.2.2.2.2)
        )
     ) (fun v1241 =>
      if ((v648.2.2.2.2.2.1.length : Nat) : Int) = 0 then
       (
        (g34 ((v1241.1, v1241.2.1, v1241.2.2.1, v1241.2.2.2.1), v1241.2.2.2.2.1, v1241.2.2.2.2.2.1, v1241.2.2.2.2.2.2.1, v1241.2.2.2.2.2.2.2.1, v1241.2.2.2.2.2.2.2.2.1, v1241.2.2.2.2.2.2.2.2.2) 15).bind fun v1330 =>
        some (decide (¬ (v1330.1 = true)))
       )
      else
       (
        (g16 (v1241.1, v1241.2.1, v1241.2.2.1, v1241.2.2.2.1)).bind fun v1345 =>
        if v1345.data.toList = v1125.data.toList then
         (
          (g34 ((v1241.1, v1241.2.1, v1241.2.2.1, v1241.2.2.2.1), v1241.2.2.2.2.1, v1241.2.2.2.2.2.1, v1241.2.2.2.2.2.2.1, v1241.2.2.2.2.2.2.2.1, v1241.2.2.2.2.2.2.2.2.1, v1241.2.2.2.2.2.2.2.2.2) 15).bind fun v1348 =>
          some (decide (¬ (v1348.1 = true)))
         )
        else
         some false
       )
     )
    )
   )
  )
noncomputable def k8 : Eng.CS := { f := 8, calm := true, more := 0, ι := (List (Int × ByteArray × Int)) × Bool, ok := fun i => g8 i.1 = some i.2, rds := fun _ => [], args := fun i => [.sl 3 i.1.length (ec c67 i.1)], res := fun i => bS i.2 }
set_option maxRecDepth 8000 in
set_option maxHeartbeats 4000000 in
theorem k8_ok : CalmOk Try.prog k8 := by
 refine R.calmspec Try.func8 nm8 rfl ?_
 rintro ⟨a0, r⟩ hok q _ args hargs
 match args, hargs with
 | [_], hargs =>
 obtain ⟨⟨A0, cp0, rfl, hc0, _, hR0⟩, _⟩ := hargs
 refine ⟨envC [k13, k16, k32, k33, k34, k36, k39, k81] false [(8, 14), (8, 17), (8, 19), (8, 21), (8, 26)], 6, envC_ok (css_cons ⟨fun _ => k13_ok, fun h => (by cases h)⟩ (css_cons ⟨fun _ => k16_ok, fun h => (by cases h)⟩ (css_cons ⟨fun h => (by cases h), fun _ => k32_ok⟩ (css_cons ⟨fun _ => k33_ok, fun h => (by cases h)⟩ (css_cons ⟨fun h => (by cases h), fun _ => k34_ok⟩ (css_cons ⟨fun _ => k36_ok, fun h => (by cases h)⟩ (css_cons ⟨fun h => (by cases h), fun _ => k39_ok⟩ (css_cons ⟨fun _ => k81_ok, fun h => (by cases h)⟩ (css_nil))))))))), rfl, (by intro x hx; simp only [List.mem_cons, List.not_mem_nil, or_false] at hx; rcases hx with rfl <;> rfl), ?_⟩
 have H : Gives (g8 a0) (fun a => a = r) := ⟨r, hok, rfl⟩
 unfold g8 at H
 clear hok
 refine And.intro (fun h => absurd h (by decide)) (fun _ => ?_)
 refine And.intro (fun h => absurd h (by decide)) (fun _ => ?_)
 refine And.intro (fun h => absurd h (by decide)) (fun _ => ?_)
 refine And.intro (fun h => absurd h (by decide)) (fun _ => ?_)
 obtain ⟨v6, hv7, H⟩ := call_st H
 refine ⟨v6, ⟨hv7⟩, ⟨trivial⟩, ?_⟩
 refine if_st H (fun h8 H => ?_) (fun h8 H => ?_)
 ·have hfin := fin_st H
  repeat refine mf1E14 ?_
  first | exact trivial | exact rfl
 ·refine R.cut_famXG H 66 [3] [] [] (fun (v648 : Int × List ByteArray × Int × Int × List (List ByteArray) × List ((List ByteArray) × Int) × Bool × Bool × Int × Int) (g : (List ((Option Addr × Nat) × List ByteArray)) × (List (((Option Addr × Nat) × List ByteArray) × Int))) => []) (fun (v648 : Int × List ByteArray × Int × Int × List (List ByteArray) × List ((List ByteArray) × Int) × Bool × Bool × Int × Int) (g : (List ((Option Addr × Nat) × List ByteArray)) × (List (((Option Addr × Nat) × List ByteArray) × Int))) => [(26, .cells 43 [.v (.int .i64 (v648.1)), .own 66, .v (.int .i64 (v648.2.2.1)), .v (.int .i64 (v648.2.2.2.1))]), (33, .cells 73 [.lp 26 0, .own 67, .own 68, bS v648.2.2.2.2.2.2.1, bS v648.2.2.2.2.2.2.2.1, .v (.int .i64 (v648.2.2.2.2.2.2.2.2.1)), .v (.int .i64 (v648.2.2.2.2.2.2.2.2.2))]), (66, .arr 9 1 (v648.2.1.length) (es (v648.2.1))), (67, .arr 25 1 (v648.2.2.2.2.1.length) (ec c25 ((g.1)))), (68, .arr 105 2 (v648.2.2.2.2.2.1.length) (ec c105 ((g.2))))]) [] 3 (fun q (v648 : Int × List ByteArray × Int × Int × List (List ByteArray) × List ((List ByteArray) × Int) × Bool × Bool × Int × Int) (g : (List ((Option Addr × Nat) × List ByteArray)) × (List (((Option Addr × Nat) × List ByteArray) × Int))) => g.1.map e25 = v648.2.2.2.2.1 ∧ (∀ p ∈ g.1, P25 q p) ∧ g.2.map e105 = v648.2.2.2.2.2.1 ∧ (∀ p ∈ g.2, P105 q p)) (fun H => ?_)
  refine And.intro ?_ ?_
  ·refine R.loop_famXG (bind_st H) [0, 3] [(100026, 1, 9, 1), (100033, 1, 25, 1), (100033, 2, 105, 2)] [] (fun _ => fun (s652 : Int × List ByteArray × Int × Int × List (List ByteArray) × List ((List ByteArray) × Int) × Bool × Bool × Int × Int × Int) (g : (List ((Option Addr × Nat) × List ByteArray)) × (List (((Option Addr × Nat) × List ByteArray) × Int))) => [(5, .v (.int .i64 (s652.2.2.2.2.2.2.2.2.2.2)))]) (fun _ => fun (s652 : Int × List ByteArray × Int × Int × List (List ByteArray) × List ((List ByteArray) × Int) × Bool × Bool × Int × Int × Int) (g : (List ((Option Addr × Nat) × List ByteArray)) × (List (((Option Addr × Nat) × List ByteArray) × Int))) => [(26, .cells 43 [.v (.int .i64 (s652.1)), .own 50, .v (.int .i64 (s652.2.2.1)), .v (.int .i64 (s652.2.2.2.1))]), (33, .cells 73 [.lp 26 0, .own 51, .own 52, bS s652.2.2.2.2.2.2.1, bS s652.2.2.2.2.2.2.2.1, .v (.int .i64 (s652.2.2.2.2.2.2.2.2.1)), .v (.int .i64 (s652.2.2.2.2.2.2.2.2.2.1))]), (50, .arr 9 1 (s652.2.1.length) (es (s652.2.1))), (51, .arr 25 1 (s652.2.2.2.2.1.length) (ec c25 ((g.1)))), (52, .arr 105 2 (s652.2.2.2.2.2.1.length) (ec c105 ((g.2))))]) 3 (fun q (s652 : Int × List ByteArray × Int × Int × List (List ByteArray) × List ((List ByteArray) × Int) × Bool × Bool × Int × Int × Int) (g : (List ((Option Addr × Nat) × List ByteArray)) × (List (((Option Addr × Nat) × List ByteArray) × Int))) => g.1.map e25 = s652.2.2.2.2.1 ∧ (∀ p ∈ g.1, P25 q p) ∧ g.2.map e105 = s652.2.2.2.2.2.1 ∧ (∀ p ∈ g.2, P105 q p)) (fun n1085 H => ?_)
   refine ⟨(n1085, _, ([] : List ((Option Addr × Nat) × List ByteArray)), ([] : List (((Option Addr × Nat) × List ByteArray) × Int))), ⟨H⟩, ⟨(show List.map e25 [] = [] from rfl), pin_nil, (show List.map e105 [] = [] from rfl), pin_nil⟩, ?_⟩
   repeat refine mo1E14 ?_
   rintro q651 hq650 ⟨m0, s652, X792, X794⟩ H hrd
   obtain ⟨hE793, hin790, hE795, hin791⟩ := hrd
   obtain ⟨m653, hm0, H⟩ := IG_succ H
   dsimp only at hm0 hin790 hin791 hE793 hE795
   subst hm0
   try dsimp only at H
   refine if_st H (fun h934 H => ?_) (fun h934 H => ?_)
   ·refine if_st H (fun h935 H => ?_) (fun h935 H => ?_)
    ·obtain ⟨v936, hv937, H⟩ := call_st H
     refine ⟨((s652.1, s652.2.1, s652.2.2.1, s652.2.2.2.1), v936), ⟨hv937⟩, ⟨trivial⟩, ?_⟩
     iterate 4 refine mo1E14 ?_
     obtain ⟨v938, hv939, H⟩ := call_st H
     refine ⟨((s652.1, s652.2.1, s652.2.2.1, s652.2.2.2.1), v938), ⟨hv939⟩, ⟨trivial⟩, ?_⟩
     iterate 4 refine mo1E14 ?_
     refine R.cut_famXG H 141 [0, 3, 5, 6, 7, 32, 33] [] [] (fun (v998 : Int × List ByteArray × Int × Int × List (List ByteArray) × List ((List ByteArray) × Int) × Bool × Bool × Int × Int × Bool) (g : (List ((Option Addr × Nat) × List ByteArray)) × (List (((Option Addr × Nat) × List ByteArray) × Int))) => [(8, bS v998.2.2.2.2.2.2.2.2.2.2)]) (fun (v998 : Int × List ByteArray × Int × Int × List (List ByteArray) × List ((List ByteArray) × Int) × Bool × Bool × Int × Int × Bool) (g : (List ((Option Addr × Nat) × List ByteArray)) × (List (((Option Addr × Nat) × List ByteArray) × Int))) => [(26, .cells 43 [.v (.int .i64 (v998.1)), .own 141, .v (.int .i64 (v998.2.2.1)), .v (.int .i64 (v998.2.2.2.1))]), (33, .cells 73 [.lp 26 0, .own 142, .own 143, bS v998.2.2.2.2.2.2.1, bS v998.2.2.2.2.2.2.2.1, .v (.int .i64 (v998.2.2.2.2.2.2.2.2.1)), .v (.int .i64 (v998.2.2.2.2.2.2.2.2.2.1))]), (141, .arr 9 1 (v998.2.1.length) (es (v998.2.1))), (142, .arr 25 1 (v998.2.2.2.2.1.length) (ec c25 ((g.1)))), (143, .arr 105 2 (v998.2.2.2.2.2.1.length) (ec c105 ((g.2))))]) [] 3 (fun q (v998 : Int × List ByteArray × Int × Int × List (List ByteArray) × List ((List ByteArray) × Int) × Bool × Bool × Int × Int × Bool) (g : (List ((Option Addr × Nat) × List ByteArray)) × (List (((Option Addr × Nat) × List ByteArray) × Int))) => g.1.map e25 = v998.2.2.2.2.1 ∧ (∀ p ∈ g.1, P25 q p) ∧ g.2.map e105 = v998.2.2.2.2.2.1 ∧ (∀ p ∈ g.2, P105 q p)) (fun H => ?_)
     refine And.intro ?_ ?_
     ·refine ob_ix (Reads.mono hq650 hR0) (fun h => ec0 c67_len (by decide) h) H fun h1000 H => ?_
      refine ld_int (e := (a0.getD s652.2.2.2.2.2.2.2.2.2.2.toNat default).1) (rd_get (Reads.mono hq650 hR0) ((ec_get (i := s652.2.2.2.2.2.2.2.2.2.2.toNat) (o := 0) c67_len (tn h1000) (by decide)).trans rfl)) ?_
      refine ld_str (e := (a0.getD s652.2.2.2.2.2.2.2.2.2.2.toNat default).2.1) (rd_get (Reads.mono hq650 hR0) ((ec_get (i := s652.2.2.2.2.2.2.2.2.2.2.toNat) (o := 1) c67_len (tn h1000) (by decide)).trans rfl)) ?_
      refine ld_int (e := (a0.getD s652.2.2.2.2.2.2.2.2.2.2.toNat default).2.2) (rd_get (Reads.mono hq650 hR0) ((ec_get (i := s652.2.2.2.2.2.2.2.2.2.2.toNat) (o := 2) c67_len (tn h1000) (by decide)).trans rfl)) ?_
      refine And.intro ⟨by decide⟩ ?_
      refine R.cut_fam H 124 [0, 3, 5, 6, 7, 9, 32, 33, 47] [] (fun v1002 => [(52, bS v1002)]) (fun v1002 => []) [(26, .cells 43 [.v (.int .i64 (s652.1)), .own 50, .v (.int .i64 (s652.2.2.1)), .v (.int .i64 (s652.2.2.2.1))]), (33, .cells 73 [.lp 26 0, .own 51, .own 52, bS s652.2.2.2.2.2.2.1, bS s652.2.2.2.2.2.2.2.1, .v (.int .i64 (s652.2.2.2.2.2.2.2.2.1)), .v (.int .i64 (s652.2.2.2.2.2.2.2.2.2.1))]), (50, .arr 9 1 (s652.2.1.length) (es (s652.2.1))), (51, .arr 25 1 (s652.2.2.2.2.1.length) (ec c25 (X792))), (52, .arr 105 2 (s652.2.2.2.2.2.1.length) (ec c105 (X794))), (114, .cells 67 [.v (.int .u8 ((a0.getD s652.2.2.2.2.2.2.2.2.2.2.toNat default).1)), .v (.string ((a0.getD s652.2.2.2.2.2.2.2.2.2.2.toNat default).2.1)), .v (.int .i64 ((a0.getD s652.2.2.2.2.2.2.2.2.2.2.toNat default).2.2))])] 0 (fun H => ?_)
      refine And.intro ?_ ?_
      ·refine if_st H (fun h1004 H => ?_) (fun h1004 H => ?_)
       ·refine ⟨(decide ((Int.tmod ((a0.getD s652.2.2.2.2.2.2.2.2.2.2.toNat default).1) 8) = 0)), ⟨H⟩, ⟨rfl⟩, ?_⟩
        repeat refine mo1E14 ?_
        first | exact trivial | exact rfl
       ·refine ⟨(decide ((Int.tmod ((a0.getD s652.2.2.2.2.2.2.2.2.2.2.toNat default).1) 8) = 1)), ⟨H⟩, ⟨rfl⟩, ?_⟩
        repeat refine mo1E14 ?_
        first | exact trivial | exact rfl
      ·intro v1002 H
       refine if_st H (fun h1005 H => ?_) (fun h1005 H => ?_)
       ·obtain ⟨v1006, hv1007, H⟩ := call_st H
        refine ⟨((a0.getD s652.2.2.2.2.2.2.2.2.2.2.toNat default).2.1, v1006), ⟨hv1007⟩, ⟨trivial⟩, ?_⟩
        refine And.intro ⟨rfl⟩ ?_
        obtain ⟨v1008, hv1009, H⟩ := call_st H
        refine ⟨(((s652.1, s652.2.1, s652.2.2.1, s652.2.2.2.1), s652.2.2.2.2.1, s652.2.2.2.2.2.1, s652.2.2.2.2.2.2.1, s652.2.2.2.2.2.2.2.1, s652.2.2.2.2.2.2.2.2.1, s652.2.2.2.2.2.2.2.2.2.1), v1006, v1008, (X792, X794)), ⟨hv1009, hE793, P25.cap hin790, hE795, P105.cap hin791⟩, ⟨(rdsOk_app.2 ⟨(rdsOk_app.2 ⟨trivial, P25.rds hin790⟩), P105.rds hin791⟩)⟩, ?_⟩
        iterate 2 refine And.intro ⟨rfl⟩ ?_
        iterate 11 refine mo1E14 ?_
        intro q1010 g1011 hq1012 hok1013 hrd1014
        obtain ⟨X1017, X1021⟩ := g1011
        obtain ⟨hE1018, hC1015, hE1022, hC1019⟩ := hok1013
        obtain ⟨hrd1014, hF1020⟩ := rdsOk_app.1 hrd1014
        obtain ⟨hrd1014, hF1016⟩ := rdsOk_app.1 hrd1014
        try dsimp only at hC1015 hF1016 hE1018 hC1019 hF1020 hE1022
        refine ⟨((v1008.2.1.1, v1008.2.1.2.1, v1008.2.1.2.2.1, v1008.2.1.2.2.2, v1008.2.2.1, v1008.2.2.2.1, v1008.2.2.2.2.1, v1008.2.2.2.2.2.1, v1008.2.2.2.2.2.2.1, v1008.2.2.2.2.2.2.2, v1008.1), X1017, X1021), ⟨H, hE1018, (P25.of hF1016 hC1015), hE1022, (P105.of hF1020 hC1019)⟩, ⟨fun _ _ _ h => (hq1012 _ _ _ h)⟩, ?_⟩
        repeat refine mo1E14 ?_
        first | exact trivial | exact rfl
       ·refine if_st H (fun h1023 H => ?_) (fun h1023 H => ?_)
        ·obtain ⟨v1024, hv1025, H⟩ := call_st H
         refine ⟨((a0.getD s652.2.2.2.2.2.2.2.2.2.2.toNat default).2.1, v1024), ⟨hv1025⟩, ⟨trivial⟩, ?_⟩
         refine And.intro ⟨rfl⟩ ?_
         obtain ⟨v1026, hv1027, H⟩ := call_st H
         refine ⟨(((s652.1, s652.2.1, s652.2.2.1, s652.2.2.2.1), s652.2.2.2.2.1, s652.2.2.2.2.2.1, s652.2.2.2.2.2.2.1, s652.2.2.2.2.2.2.2.1, s652.2.2.2.2.2.2.2.2.1, s652.2.2.2.2.2.2.2.2.2.1), v1024, v1026, (X792, X794)), ⟨hv1027, hE793, P25.cap hin790, hE795, P105.cap hin791⟩, ⟨(rdsOk_app.2 ⟨(rdsOk_app.2 ⟨trivial, P25.rds hin790⟩), P105.rds hin791⟩)⟩, ?_⟩
         iterate 2 refine And.intro ⟨rfl⟩ ?_
         iterate 11 refine mo1E14 ?_
         intro q1028 g1029 hq1030 hok1031 hrd1032
         obtain ⟨X1035, X1039⟩ := g1029
         obtain ⟨hE1036, hC1033, hE1040, hC1037⟩ := hok1031
         obtain ⟨hrd1032, hF1038⟩ := rdsOk_app.1 hrd1032
         obtain ⟨hrd1032, hF1034⟩ := rdsOk_app.1 hrd1032
         try dsimp only at hC1033 hF1034 hE1036 hC1037 hF1038 hE1040
         refine ⟨((v1026.2.1.1, v1026.2.1.2.1, v1026.2.1.2.2.1, v1026.2.1.2.2.2, v1026.2.2.1, v1026.2.2.2.1, v1026.2.2.2.2.1, v1026.2.2.2.2.2.1, v1026.2.2.2.2.2.2.1, v1026.2.2.2.2.2.2.2, v1026.1), X1035, X1039), ⟨H, hE1036, (P25.of hF1034 hC1033), hE1040, (P105.of hF1038 hC1037)⟩, ⟨fun _ _ _ h => (hq1030 _ _ _ h)⟩, ?_⟩
         repeat refine mo1E14 ?_
         first | exact trivial | exact rfl
        ·obtain ⟨v1041, hv1042, H⟩ := call_st H
         refine ⟨(((s652.1, s652.2.1, s652.2.2.1, s652.2.2.2.1), s652.2.2.2.2.1, s652.2.2.2.2.2.1, s652.2.2.2.2.2.2.1, s652.2.2.2.2.2.2.2.1, s652.2.2.2.2.2.2.2.2.1, s652.2.2.2.2.2.2.2.2.2.1), (a0.getD s652.2.2.2.2.2.2.2.2.2.2.toNat default).2.2, v1041, (X792, X794)), ⟨hv1042, hE793, P25.cap hin790, hE795, P105.cap hin791⟩, ⟨(rdsOk_app.2 ⟨(rdsOk_app.2 ⟨trivial, P25.rds hin790⟩), P105.rds hin791⟩)⟩, ?_⟩
         iterate 2 refine And.intro ⟨rfl⟩ ?_
         iterate 11 refine mo1E14 ?_
         intro q1043 g1044 hq1045 hok1046 hrd1047
         obtain ⟨X1050, X1054⟩ := g1044
         obtain ⟨hE1051, hC1048, hE1055, hC1052⟩ := hok1046
         obtain ⟨hrd1047, hF1053⟩ := rdsOk_app.1 hrd1047
         obtain ⟨hrd1047, hF1049⟩ := rdsOk_app.1 hrd1047
         try dsimp only at hC1048 hF1049 hE1051 hC1052 hF1053 hE1055
         refine ⟨((v1041.2.1.1, v1041.2.1.2.1, v1041.2.1.2.2.1, v1041.2.1.2.2.2, v1041.2.2.1, v1041.2.2.2.1, v1041.2.2.2.2.1, v1041.2.2.2.2.2.1, v1041.2.2.2.2.2.2.1, v1041.2.2.2.2.2.2.2, v1041.1), X1050, X1054), ⟨H, hE1051, (P25.of hF1049 hC1048), hE1055, (P105.of hF1053 hC1052)⟩, ⟨fun _ _ _ h => (hq1045 _ _ _ h)⟩, ?_⟩
         repeat refine mo1E14 ?_
         first | exact trivial | exact rfl
     ·rintro q997 hq996 ⟨v998, X1058, X1060⟩ ⟨H, hE1059, hin1056, hE1061, hin1057⟩
      dsimp only at H hin1056 hin1057 hE1059 hE1061
      refine if_st H (fun h1062 H => ?_) (fun h1062 H => ?_)
      ·obtain ⟨v1063, hv1064, H⟩ := call_st H
       refine ⟨((v998.1, v998.2.1, v998.2.2.1, v998.2.2.2.1), v1063), ⟨hv1064⟩, ⟨trivial⟩, ?_⟩
       iterate 4 refine mo1E14 ?_
       refine if_st H (fun h1065 H => ?_) (fun h1065 H => ?_)
       ·replace H := some_st H
        dsimp only [stp, sm] at H
        have hfin := fin_st H
        repeat refine mf1E14 ?_
        first | exact trivial | exact rfl
       ·obtain ⟨v1066, hv1067, H⟩ := call_st H
        refine ⟨((v998.1, v998.2.1, v998.2.2.1, v998.2.2.2.1), v1066), ⟨hv1067⟩, ⟨trivial⟩, ?_⟩
        iterate 4 refine mo1E14 ?_
        refine if_st H (fun h1068 H => ?_) (fun h1068 H => ?_)
        ·replace H := some_st H
         dsimp only [stp, sm] at H
         have hfin := fin_st H
         repeat refine mf1E14 ?_
         first | exact trivial | exact rfl
        ·refine ob_ck H fun h1069 H => ?_
         replace H := some_st H
         refine ⟨(m653, (v998.1, v998.2.1, v998.2.2.1, v998.2.2.2.1, v998.2.2.2.2.1, v998.2.2.2.2.2.1, v998.2.2.2.2.2.2.1, v998.2.2.2.2.2.2.2.1, v998.2.2.2.2.2.2.2.2.1, v998.2.2.2.2.2.2.2.2.2.1, s652.2.2.2.2.2.2.2.2.2.2 + 1), X1058, X1060), ⟨H, Nat.lt_succ_self _⟩, ⟨hE1059, hin1056, hE1061, hin1057⟩, ⟨fun _ _ _ h => (hq996 _ _ _ (hq650 _ _ _ h))⟩, ?_⟩
         repeat refine mo1E14 ?_
         first | exact trivial | exact rfl
      ·refine ob_ck H fun h1070 H => ?_
       replace H := some_st H
       refine ⟨(m653, (v998.1, v998.2.1, v998.2.2.1, v998.2.2.2.1, v998.2.2.2.2.1, v998.2.2.2.2.2.1, v998.2.2.2.2.2.2.1, v998.2.2.2.2.2.2.2.1, v998.2.2.2.2.2.2.2.2.1, v998.2.2.2.2.2.2.2.2.2.1, s652.2.2.2.2.2.2.2.2.2.2 + 1), X1058, X1060), ⟨H, Nat.lt_succ_self _⟩, ⟨hE1059, hin1056, hE1061, hin1057⟩, ⟨fun _ _ _ h => (hq996 _ _ _ (hq650 _ _ _ h))⟩, ?_⟩
       repeat refine mo1E14 ?_
       first | exact trivial | exact rfl
    ·replace H := some_st H
     dsimp only [stp, sm] at H
     refine ⟨((s652.1, s652.2.1, s652.2.2.1, s652.2.2.2.1, s652.2.2.2.2.1, s652.2.2.2.2.2.1, s652.2.2.2.2.2.2.1, s652.2.2.2.2.2.2.2.1, s652.2.2.2.2.2.2.2.2.1, s652.2.2.2.2.2.2.2.2.2.1), X792, X794), ⟨H, hE793, hin790, hE795, hin791⟩, ⟨fun _ _ _ h => (hq650 _ _ _ h)⟩, ?_⟩
     repeat refine mo1E14 ?_
     first | exact trivial | exact rfl
   ·replace H := some_st H
    dsimp only [stp, sm] at H
    refine ⟨((s652.1, s652.2.1, s652.2.2.1, s652.2.2.2.1, s652.2.2.2.2.1, s652.2.2.2.2.2.1, s652.2.2.2.2.2.2.1, s652.2.2.2.2.2.2.2.1, s652.2.2.2.2.2.2.2.2.1, s652.2.2.2.2.2.2.2.2.2.1), X792, X794), ⟨H, hE793, hin790, hE795, hin791⟩, ⟨fun _ _ _ h => (hq650 _ _ _ h)⟩, ?_⟩
    repeat refine mo1E14 ?_
    first | exact trivial | exact rfl
  ·rintro q647 hq646 ⟨v648, X1088, X1090⟩ ⟨H, hE1089, hin1086, hE1091, hin1087⟩
   dsimp only at H hin1086 hin1087 hE1089 hE1091
   refine R.cut_fam H 144 [3, 10] [] (fun v1125 => [(11, .v (.string (v1125)))]) (fun v1125 => []) [(26, .cells 43 [.v (.int .i64 (v648.1)), .own 66, .v (.int .i64 (v648.2.2.1)), .v (.int .i64 (v648.2.2.2.1))]), (33, .cells 73 [.lp 26 0, .own 67, .own 68, bS v648.2.2.2.2.2.2.1, bS v648.2.2.2.2.2.2.2.1, .v (.int .i64 (v648.2.2.2.2.2.2.2.2.1)), .v (.int .i64 (v648.2.2.2.2.2.2.2.2.2))]), (66, .arr 9 1 (v648.2.1.length) (es (v648.2.1))), (67, .arr 25 1 (v648.2.2.2.2.1.length) (ec c25 (X1088))), (68, .arr 105 2 (v648.2.2.2.2.2.1.length) (ec c105 (X1090)))] 0 (fun H => ?_)
   refine And.intro ?_ ?_
   ·refine ob_ck H fun h1127 H => ?_
    refine if_st H (fun h1128 H => ?_) (fun h1128 H => ?_)
    ·refine ⟨(lit []), ⟨H⟩, ⟨rfl⟩, ?_⟩
     repeat refine mo1E14 ?_
     first | exact trivial | exact rfl
    ·refine if_st H (fun h1129 H => ?_) (fun h1129 H => ?_)
     ·refine ⟨(lit []), ⟨H⟩, ⟨rfl⟩, ?_⟩
      repeat refine mo1E14 ?_
      first | exact trivial | exact rfl
     ·refine And.intro ⟨by kernel_rfl⟩ ?_
      refine ob_ck H fun h1130 H => ?_
      refine ob_ck H fun h1131 H => ?_
      refine ob_ck H fun h1132 H => ?_
      have hel1133 : e105 (X1090.getD ((((v648.2.2.2.2.2.1.length : Nat) : Int) - 1) - (((v648.2.2.2.2.2.1.length : Nat) : Int) - 1)).toNat default) = v648.2.2.2.2.2.1.getD ((((v648.2.2.2.2.2.1.length : Nat) : Int) - 1) - (((v648.2.2.2.2.2.1.length : Nat) : Int) - 1)).toNat default := er_get hE1091 (by first | exact tn h1132 | (have := tn h1132; simp at this ⊢; omega) | (have := tn h1132; simp; omega))
      have hr1134 : (X1090.getD ((((v648.2.2.2.2.2.1.length : Nat) : Int) - 1) - (((v648.2.2.2.2.2.1.length : Nat) : Int) - 1)).toNat default).1.2 = (v648.2.2.2.2.2.1.getD ((((v648.2.2.2.2.2.1.length : Nat) : Int) - 1) - (((v648.2.2.2.2.2.1.length : Nat) : Int) - 1)).toNat default).1 := congrArg (fun z => z.1) hel1133
      obtain ⟨A1135, c1136, hA1137⟩ : ∃ A c, (A = (X1090.getD ((((v648.2.2.2.2.2.1.length : Nat) : Int) - 1) - (((v648.2.2.2.2.2.1.length : Nat) : Int) - 1)).toNat default).1.1.1 ∧ c = (X1090.getD ((((v648.2.2.2.2.2.1.length : Nat) : Int) - 1) - (((v648.2.2.2.2.2.1.length : Nat) : Int) - 1)).toNat default).1.1.2) := ⟨_, _, rfl, rfl⟩
      have hR1138 := rd_eq (f := es) hr1134 (hin1087 _ (getD_mem (Nat.lt_of_lt_of_eq (by first | exact tn h1132 | (have := tn h1132; simp at this ⊢; omega) | (have := tn h1132; simp; omega)) (er_len hE1091).symm))).1
      rw [← hA1137.1] at hR1138
      have hc1139 : ((v648.2.2.2.2.2.1.getD ((((v648.2.2.2.2.2.1.length : Nat) : Int) - 1) - (((v648.2.2.2.2.2.1.length : Nat) : Int) - 1)).toNat default).1).length ≤ c1136 := by rw [hA1137.2]; exact Nat.le_trans (Nat.le_of_eq (congrArg List.length hr1134.symm)) (hin1087 _ (getD_mem (Nat.lt_of_lt_of_eq (by first | exact tn h1132 | (have := tn h1132; simp at this ⊢; omega) | (have := tn h1132; simp; omega)) (er_len hE1091).symm))).2
      refine ld_sl (A := A1135) (n := ((v648.2.2.2.2.2.1.getD ((((v648.2.2.2.2.2.1.length : Nat) : Int) - 1) - (((v648.2.2.2.2.2.1.length : Nat) : Int) - 1)).toNat default).1).length) (c := c1136) (by rw [hA1137.1, hA1137.2]; exact (own_get (ys := ec c105 X1090) (by first | rfl | simp [ei, eb, es, ec, c25, c67, c105, c135]) ((ec_get (i := ((((v648.2.2.2.2.2.1.length : Nat) : Int) - 1) - (((v648.2.2.2.2.2.1.length : Nat) : Int) - 1)).toNat) (o := 0) c105_len (Nat.lt_of_lt_of_eq (by first | exact tn h1132 | (have := tn h1132; simp at this ⊢; omega) | (have := tn h1132; simp; omega)) (er_len hE1091).symm) (by decide)).trans rfl)).trans (congrArg (fun z => some (Value.slice (X1090.getD ((((v648.2.2.2.2.2.1.length : Nat) : Int) - 1) - (((v648.2.2.2.2.2.1.length : Nat) : Int) - 1)).toNat default).1.1.1 z (X1090.getD ((((v648.2.2.2.2.2.1.length : Nat) : Int) - 1) - (((v648.2.2.2.2.2.1.length : Nat) : Int) - 1)).toNat default).1.1.2)) (congrArg List.length hr1134))) ?_
      obtain ⟨v1140, hv1141, H⟩ := call_st H
      refine ⟨((v648.2.2.2.2.2.1.getD ((((v648.2.2.2.2.2.1.length : Nat) : Int) - 1) - (((v648.2.2.2.2.2.1.length : Nat) : Int) - 1)).toNat default).1, (lit []), v1140), ⟨hv1141⟩, ⟨trivial⟩, ?_⟩
      refine And.intro ⟨rfl, hc1139, es_len.trans ((show _ = _ from rfl).trans (Nat.mul_one _).symm), hR1138⟩ ?_
      refine And.intro ⟨rfl⟩ ?_
      refine ⟨v1140, ⟨H⟩, ⟨rfl⟩, ?_⟩
      repeat refine mo1E14 ?_
      first | exact trivial | exact rfl
   ·intro v1125 H
    refine R.cut_famXG H 156 [3, 10, 11] [] [] (fun (v1241 : Int × List ByteArray × Int × Int × List (List ByteArray) × List ((List ByteArray) × Int) × Bool × Bool × Int × Int) (g : (List ((Option Addr × Nat) × List ByteArray)) × (List (((Option Addr × Nat) × List ByteArray) × Int))) => []) (fun (v1241 : Int × List ByteArray × Int × Int × List (List ByteArray) × List ((List ByteArray) × Int) × Bool × Bool × Int × Int) (g : (List ((Option Addr × Nat) × List ByteArray)) × (List (((Option Addr × Nat) × List ByteArray) × Int))) => [(26, .cells 43 [.v (.int .i64 (v1241.1)), .own 156, .v (.int .i64 (v1241.2.2.1)), .v (.int .i64 (v1241.2.2.2.1))]), (33, .cells 73 [.lp 26 0, .own 157, .own 158, bS v1241.2.2.2.2.2.2.1, bS v1241.2.2.2.2.2.2.2.1, .v (.int .i64 (v1241.2.2.2.2.2.2.2.2.1)), .v (.int .i64 (v1241.2.2.2.2.2.2.2.2.2))]), (156, .arr 9 1 (v1241.2.1.length) (es (v1241.2.1))), (157, .arr 25 1 (v1241.2.2.2.2.1.length) (ec c25 ((g.1)))), (158, .arr 105 2 (v1241.2.2.2.2.2.1.length) (ec c105 ((g.2))))]) [] 3 (fun q (v1241 : Int × List ByteArray × Int × Int × List (List ByteArray) × List ((List ByteArray) × Int) × Bool × Bool × Int × Int) (g : (List ((Option Addr × Nat) × List ByteArray)) × (List (((Option Addr × Nat) × List ByteArray) × Int))) => g.1.map e25 = v1241.2.2.2.2.1 ∧ (∀ p ∈ g.1, P25 q p) ∧ g.2.map e105 = v1241.2.2.2.2.2.1 ∧ (∀ p ∈ g.2, P105 q p)) (fun H => ?_)
    refine And.intro ?_ ?_
    ·refine R.loop_famXG (bind_st H) [3, 10, 11] [] [] (fun _ => fun (s1245 : Int × List ByteArray × Int × Int × List (List ByteArray) × List ((List ByteArray) × Int) × Bool × Bool × Int × Int × Int) (g : (List ((Option Addr × Nat) × List ByteArray)) × (List (((Option Addr × Nat) × List ByteArray) × Int))) => [(12, .v (.int .i64 (s1245.2.2.2.2.2.2.2.2.2.2)))]) (fun _ => fun (s1245 : Int × List ByteArray × Int × Int × List (List ByteArray) × List ((List ByteArray) × Int) × Bool × Bool × Int × Int × Int) (g : (List ((Option Addr × Nat) × List ByteArray)) × (List (((Option Addr × Nat) × List ByteArray) × Int))) => [(26, .cells 43 [.v (.int .i64 (s1245.1)), .own 145, .v (.int .i64 (s1245.2.2.1)), .v (.int .i64 (s1245.2.2.2.1))]), (33, .cells 73 [.lp 26 0, .own 146, .own 147, bS s1245.2.2.2.2.2.2.1, bS s1245.2.2.2.2.2.2.2.1, .v (.int .i64 (s1245.2.2.2.2.2.2.2.2.1)), .v (.int .i64 (s1245.2.2.2.2.2.2.2.2.2.1))]), (145, .arr 9 1 (s1245.2.1.length) (es (s1245.2.1))), (146, .arr 25 1 (s1245.2.2.2.2.1.length) (ec c25 ((g.1)))), (147, .arr 105 2 (s1245.2.2.2.2.2.1.length) (ec c105 ((g.2))))]) 3 (fun q (s1245 : Int × List ByteArray × Int × Int × List (List ByteArray) × List ((List ByteArray) × Int) × Bool × Bool × Int × Int × Int) (g : (List ((Option Addr × Nat) × List ByteArray)) × (List (((Option Addr × Nat) × List ByteArray) × Int))) => g.1.map e25 = s1245.2.2.2.2.1 ∧ (∀ p ∈ g.1, P25 q p) ∧ g.2.map e105 = s1245.2.2.2.2.2.1 ∧ (∀ p ∈ g.2, P105 q p)) (fun n1322 H => ?_)
     refine ⟨(n1322, _, X1088, X1090), ⟨H⟩, ⟨hE1089, hin1086, hE1091, hin1087⟩, ?_⟩
     repeat refine mo1E14 ?_
     rintro q1244 hq1243 ⟨m0, s1245, X1267, X1269⟩ H hrd
     obtain ⟨hE1268, hin1265, hE1270, hin1266⟩ := hrd
     obtain ⟨m1246, hm0, H⟩ := IG_succ H
     dsimp only at hm0 hin1265 hin1266 hE1268 hE1270
     subst hm0
     try dsimp only at H
     refine if_st H (fun h1290 H => ?_) (fun h1290 H => ?_)
     ·obtain ⟨v1291, hv1292, H⟩ := call_st H
      refine ⟨(((s1245.1, s1245.2.1, s1245.2.2.1, s1245.2.2.2.1), s1245.2.2.2.2.1, s1245.2.2.2.2.2.1, s1245.2.2.2.2.2.2.1, s1245.2.2.2.2.2.2.2.1, s1245.2.2.2.2.2.2.2.2.1, s1245.2.2.2.2.2.2.2.2.2.1), 15, v1291, (X1267, X1269)), ⟨hv1292, hE1268, P25.cap hin1265, hE1270, P105.cap hin1266⟩, ⟨(rdsOk_app.2 ⟨(rdsOk_app.2 ⟨trivial, P25.rds hin1265⟩), P105.rds hin1266⟩)⟩, ?_⟩
      iterate 2 refine And.intro ⟨rfl⟩ ?_
      iterate 11 refine mo1E14 ?_
      intro q1293 g1294 hq1295 hok1296 hrd1297
      obtain ⟨X1300, X1304⟩ := g1294
      obtain ⟨hE1301, hC1298, hE1305, hC1302⟩ := hok1296
      obtain ⟨hrd1297, hF1303⟩ := rdsOk_app.1 hrd1297
      obtain ⟨hrd1297, hF1299⟩ := rdsOk_app.1 hrd1297
      try dsimp only at hC1298 hF1299 hE1301 hC1302 hF1303 hE1305
      refine if_st H (fun h1306 H => ?_) (fun h1306 H => ?_)
      ·replace H := some_st H
       dsimp only [stp, sm] at H
       have hfin := fin_st H
       repeat refine mf1E14 ?_
       first | exact trivial | exact rfl
      ·refine ob_ck H fun h1307 H => ?_
       replace H := some_st H
       refine ⟨(m1246, (v1291.2.1.1, v1291.2.1.2.1, v1291.2.1.2.2.1, v1291.2.1.2.2.2, v1291.2.2.1, v1291.2.2.2.1, v1291.2.2.2.2.1, v1291.2.2.2.2.2.1, v1291.2.2.2.2.2.2.1, v1291.2.2.2.2.2.2.2, s1245.2.2.2.2.2.2.2.2.2.2 + 1), X1300, X1304), ⟨H, Nat.lt_succ_self _⟩, ⟨hE1301, (P25.of hF1299 hC1298), hE1305, (P105.of hF1303 hC1302)⟩, ⟨fun _ _ _ h => (hq1295 _ _ _ (hq1243 _ _ _ h))⟩, ?_⟩
       repeat refine mo1E14 ?_
       first | exact trivial | exact rfl
     ·replace H := some_st H
      dsimp only [stp, sm] at H
      refine ⟨((s1245.1, s1245.2.1, s1245.2.2.1, s1245.2.2.2.1, s1245.2.2.2.2.1, s1245.2.2.2.2.2.1, s1245.2.2.2.2.2.2.1, s1245.2.2.2.2.2.2.2.1, s1245.2.2.2.2.2.2.2.2.1, s1245.2.2.2.2.2.2.2.2.2.1), X1267, X1269), ⟨H, hE1268, hin1265, hE1270, hin1266⟩, ⟨fun _ _ _ h => (hq1243 _ _ _ h)⟩, ?_⟩
      repeat refine mo1E14 ?_
      first | exact trivial | exact rfl
    ·rintro q1240 hq1239 ⟨v1241, X1325, X1327⟩ ⟨H, hE1326, hin1323, hE1328, hin1324⟩
     dsimp only at H hin1323 hin1324 hE1326 hE1328
     refine if_st H (fun h1329 H => ?_) (fun h1329 H => ?_)
     ·obtain ⟨v1330, hv1331, H⟩ := call_st H
      refine ⟨(((v1241.1, v1241.2.1, v1241.2.2.1, v1241.2.2.2.1), v1241.2.2.2.2.1, v1241.2.2.2.2.2.1, v1241.2.2.2.2.2.2.1, v1241.2.2.2.2.2.2.2.1, v1241.2.2.2.2.2.2.2.2.1, v1241.2.2.2.2.2.2.2.2.2), 15, v1330, (X1325, X1327)), ⟨hv1331, hE1326, P25.cap hin1323, hE1328, P105.cap hin1324⟩, ⟨(rdsOk_app.2 ⟨(rdsOk_app.2 ⟨trivial, P25.rds hin1323⟩), P105.rds hin1324⟩)⟩, ?_⟩
      iterate 2 refine And.intro ⟨rfl⟩ ?_
      iterate 11 refine mo1E14 ?_
      intro q1332 g1333 hq1334 hok1335 hrd1336
      obtain ⟨X1339, X1343⟩ := g1333
      obtain ⟨hE1340, hC1337, hE1344, hC1341⟩ := hok1335
      obtain ⟨hrd1336, hF1342⟩ := rdsOk_app.1 hrd1336
      obtain ⟨hrd1336, hF1338⟩ := rdsOk_app.1 hrd1336
      try dsimp only at hC1337 hF1338 hE1340 hC1341 hF1342 hE1344
      have hfin := fin_st H
      repeat refine mf1E14 ?_
      first | exact trivial | exact rfl
     ·obtain ⟨v1345, hv1346, H⟩ := call_st H
      refine ⟨((v1241.1, v1241.2.1, v1241.2.2.1, v1241.2.2.2.1), v1345), ⟨hv1346⟩, ⟨trivial⟩, ?_⟩
      iterate 4 refine mo1E14 ?_
      refine if_st H (fun h1347 H => ?_) (fun h1347 H => ?_)
      ·obtain ⟨v1348, hv1349, H⟩ := call_st H
       refine ⟨(((v1241.1, v1241.2.1, v1241.2.2.1, v1241.2.2.2.1), v1241.2.2.2.2.1, v1241.2.2.2.2.2.1, v1241.2.2.2.2.2.2.1, v1241.2.2.2.2.2.2.2.1, v1241.2.2.2.2.2.2.2.2.1, v1241.2.2.2.2.2.2.2.2.2), 15, v1348, (X1325, X1327)), ⟨hv1349, hE1326, P25.cap hin1323, hE1328, P105.cap hin1324⟩, ⟨(rdsOk_app.2 ⟨(rdsOk_app.2 ⟨trivial, P25.rds hin1323⟩), P105.rds hin1324⟩)⟩, ?_⟩
       iterate 2 refine And.intro ⟨rfl⟩ ?_
       iterate 11 refine mo1E14 ?_
       intro q1350 g1351 hq1352 hok1353 hrd1354
       obtain ⟨X1357, X1361⟩ := g1351
       obtain ⟨hE1358, hC1355, hE1362, hC1359⟩ := hok1353
       obtain ⟨hrd1354, hF1360⟩ := rdsOk_app.1 hrd1354
       obtain ⟨hrd1354, hF1356⟩ := rdsOk_app.1 hrd1354
       try dsimp only at hC1355 hF1356 hE1358 hC1359 hF1360 hE1362
       have hfin := fin_st H
       repeat refine mf1E14 ?_
       first | exact trivial | exact rfl
      ·have hfin := fin_st H
       repeat refine mf1E14 ?_
       first | exact trivial | exact rfl
end Go.Proofs.Ytenjkphlbdhaiaa
end
