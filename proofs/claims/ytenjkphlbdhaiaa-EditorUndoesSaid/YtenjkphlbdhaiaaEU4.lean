/-
  Texts that the law leans on. Nothing here is trusted.
-/
import Derived.Test.YtenjkphlbdhaiaaFlatB
set_option linter.unusedVariables false
set_option linter.unusedSimpArgs false
section
namespace Go.Proofs.Ytenjkphlbdhaiaa
open Go Go.Eng
theorem mo1E0 {p q : Prop} (k : q) (h : p := by first | exact rfl | exact Iff.rfl | exact ⟨rfl, rfl⟩ | exact decide_eq_true_iff | (constructor <;> first | exact rfl | (simp only [ei, eb, es, ec, c25, c105, c135, gmin, gmax, List.map_append, List.flatMap_append, List.nil_append, List.append_nil, List.append_assoc]; done) | omega | (simp only [List.nil_append, List.length_append, List.length_cons, List.length_nil]; omega) | (simp [ei, eb, es, ec, c25, c105, c135, gmin, gmax]; done)) | exact rfl | (simp only [ei, eb, es, ec, c25, c105, c135, gmin, gmax, List.map_append, List.flatMap_append, List.nil_append, List.append_nil, List.append_assoc]; done) | omega | (simp only [List.nil_append, List.length_append, List.length_cons, List.length_nil]; omega) | (simp [ei, eb, es, ec, c25, c105, c135, gmin, gmax]; done) | simp [ei, eb, es, ec, c25, c105, c135, gmin, gmax]) : Ob p ∧ q := ⟨⟨h⟩, k⟩
noncomputable def g19 (a0 : (Int × List ByteArray × Int × Int)) (a1 : Int) (a2 : Int) : Option (List ByteArray × (Int × List ByteArray × Int × Int)) :=
 (g47 (a0.1, a0.2.1, a0.2.2.1, a0.2.2.2)).bind fun v4 =>
 if ¬ (v4 = true) then
  some (([] : List ByteArray), (a0.1, a0.2.1, a0.2.2.1, a0.2.2.2))
 else
  (
   (g49 (a0.1, a0.2.1, a0.2.2.1, a0.2.2.2) a1).bind fun v7 =>
   (g49 (a0.1, a0.2.1, a0.2.2.1, a0.2.2.2) a2).bind fun v9 =>
   if v9 ≤ v7 then
    some (([] : List ByteArray), (a0.1, a0.2.1, a0.2.2.1, a0.2.2.2))
   else
    (
     (g11 (a0.1, a0.2.1, a0.2.2.1, a0.2.2.2)).bind fun v13 =>
     ck (0 ≤ v7 ∧ v7 ≤ v9 ∧ v9 ≤ v9 ∧ v9 ≤ ((v13.length : Nat) : Int)) <|
     (g12 (a0.1, a0.2.1, a0.2.2.1, a0.2.2.2) v7).bind fun v18 =>
     ck (inR .i64 (v9 - v7)) <|
     ck (inR .i64 (v18.2.2.2.2 + (v9 - v7))) <|
     if v9 ≤ a0.2.2.1 then
      (
       ck (inR .i64 (v9 - v7)) <|
       ck (inR .i64 (a0.2.2.1 - (v9 - v7))) <|
       (g12 (v18.2.1, v18.2.2.1, v18.2.2.2.1, v18.2.2.2.2 + (v9 - v7)) (a0.2.2.1 - (v9 - v7))).bind fun v33 =>
       some (((v13.drop v7.toNat).take (v9.toNat - v7.toNat)), (v33.2.1, v33.2.2.1, v33.2.2.2.1, v33.2.2.2.2))
      )
     else
      (
       if a0.2.2.1 < v7 then
        (
         (g12 (v18.2.1, v18.2.2.1, v18.2.2.2.1, v18.2.2.2.2 + (v9 - v7)) a0.2.2.1).bind fun v48 =>
         some (((v13.drop v7.toNat).take (v9.toNat - v7.toNat)), (v48.2.1, v48.2.2.1, v48.2.2.2.1, v48.2.2.2.2))
        )
       else
        some (((v13.drop v7.toNat).take (v9.toNat - v7.toNat)), (v18.2.1, v18.2.2.1, v18.2.2.2.1, v18.2.2.2.2 + (v9 - v7)))
      )
    )
  )
noncomputable def k19 : Eng.CS := { f := 19, calm := false, more := 3, ι := (Int × List ByteArray × Int × Int) × Int × Int × (List ByteArray × (Int × List ByteArray × Int × Int)), ok := fun i => g19 i.1 i.2.1 i.2.2.1 = some i.2.2.2, rds := fun _ => [], args := fun i => [.w (.lp 0 0), .w (.v (.int .i64 (i.2.1))), .w (.v (.int .i64 (i.2.2.1)))], res := fun _ => .bad, rn := [(100000, 1, 9, 1)], keys := 2, L := fun i => [(0, .cells 43 [.v (.int .i64 (i.1.1)), .own 1, .v (.int .i64 (i.1.2.2.1)), .v (.int .i64 (i.1.2.2.2))]), (1, .arr 9 1 i.1.2.1.length (es i.1.2.1))], gr := true, γ := (Option Addr × Nat), resG := fun i g => .v (.slice g.1 i.2.2.2.1.length g.2), LG := fun i _ => [(0, .cells 43 [.v (.int .i64 (i.2.2.2.2.1)), .own 2, .v (.int .i64 (i.2.2.2.2.2.2.1)), .v (.int .i64 (i.2.2.2.2.2.2.2))]), (2, .arr 9 1 i.2.2.2.2.2.1.length (es i.2.2.2.2.2.1))], okG := fun i g => i.2.2.2.1.length ≤ g.2, rdsG := fun i g => [(g.1, es i.2.2.2.1)], fzr := [(0, 0)] }
set_option maxRecDepth 8000 in
set_option maxHeartbeats 4000000 in
theorem k19_ok : CSOk Try.prog k19 := by
 refine R.cspecG Try.func19 nm19 rfl rfl (fun _ => rfl) ?_
 rintro ⟨a0, a1, a2, r⟩ hok q hrds args hargs
 dsimp only [k19] at hargs ⊢
 match args, hargs with
 | [_, _, _], hargs =>
 obtain ⟨rfl, rfl, rfl, _⟩ := hargs
 refine ⟨envC [k11, k12, k47, k49] false [], 6, envC_ok (css_cons ⟨fun h => (by cases h), fun _ => k11_ok⟩ (css_cons ⟨fun h => (by cases h), fun _ => k12_ok⟩ (css_cons ⟨fun _ => k47_ok, fun h => (by cases h)⟩ (css_cons ⟨fun _ => k49_ok, fun h => (by cases h)⟩ (css_nil))))), ?_⟩
 have H : Gives (g19 a0 a1 a2) (fun a => a = r) := ⟨r, hok, rfl⟩
 unfold g19 at H
 clear hok
 obtain ⟨v4, hv5, H⟩ := call_st H
 refine ⟨((a0.1, a0.2.1, a0.2.2.1, a0.2.2.2), v4), ⟨hv5⟩, ⟨trivial⟩, ?_⟩
 iterate 4 refine mo1E0 ?_
 refine if_st H (fun h6 H => ?_) (fun h6 H => ?_)
 ·have hfin := fin_st H
  subst hfin
  refine ⟨(none, 0), ⟨Nat.le_refl _⟩, ⟨⟨Reads.nil, trivial⟩⟩, ?_⟩
  repeat refine mo1E0 ?_
  first | exact trivial | exact rfl
 ·obtain ⟨v7, hv8, H⟩ := call_st H
  refine ⟨((a0.1, a0.2.1, a0.2.2.1, a0.2.2.2), a1, v7), ⟨hv8⟩, ⟨trivial⟩, ?_⟩
  iterate 4 refine mo1E0 ?_
  refine And.intro ⟨rfl⟩ ?_
  obtain ⟨v9, hv10, H⟩ := call_st H
  refine ⟨((a0.1, a0.2.1, a0.2.2.1, a0.2.2.2), a2, v9), ⟨hv10⟩, ⟨trivial⟩, ?_⟩
  iterate 4 refine mo1E0 ?_
  refine And.intro ⟨rfl⟩ ?_
  refine if_st H (fun h12 H => ?_) (fun h12 H => ?_)
  ·have hfin := fin_st H
   subst hfin
   refine ⟨(none, 0), ⟨Nat.le_refl _⟩, ⟨⟨Reads.nil, trivial⟩⟩, ?_⟩
   repeat refine mo1E0 ?_
   first | exact trivial | exact rfl
  ·obtain ⟨v13, hv14, H⟩ := call_st H
   refine ⟨((a0.1, a0.2.1, a0.2.2.1, a0.2.2.2), v13), ⟨hv14⟩, ⟨trivial⟩, ?_⟩
   iterate 4 refine mo1E0 ?_
   refine ob_ck H fun h15 H => ?_
   try dsimp only at h15
   intro n16 hn17
   subst hn17
   obtain ⟨v18, hv19, H⟩ := call_st H
   refine ⟨((a0.1, a0.2.1, a0.2.2.1, a0.2.2.2), v7, v18), ⟨hv19⟩, ⟨trivial⟩, ?_⟩
   iterate 2 refine And.intro ⟨rfl⟩ ?_
   iterate 4 refine mo1E0 ?_
   refine ob_ck H fun h20 H => ?_
   refine ob_ck H fun h21 H => ?_
   refine if_st H (fun h30 H => ?_) (fun h30 H => ?_)
   ·refine ob_ck H fun h31 H => ?_
    refine ob_ck H fun h32 H => ?_
    obtain ⟨v33, hv34, H⟩ := call_st H
    refine ⟨((v18.2.1, v18.2.2.1, v18.2.2.2.1, v18.2.2.2.2 + (v9 - v7)), a0.2.2.1 - (v9 - v7), v33), ⟨hv34⟩, ⟨trivial⟩, ?_⟩
    iterate 2 refine And.intro ⟨rfl⟩ ?_
    iterate 4 refine mo1E0 ?_
    refine And.intro ⟨by first | omega | (dsimp only; omega)⟩ ?_
    intro q35 A36 c37 A41 c42 n45 hq38 hc43 hR44 hn46 hc39 hR40
    obtain rfl : n45 = ((v13.drop v7.toNat).take (v9.toNat - v7.toNat)).length := hn46.trans (len_vw (by first | omega | (dsimp only; omega) | (dsimp only at *; omega))).symm
    rw [es_vw] at hR40
    have hfin := fin_st H
    subst hfin
    refine ⟨(A36, c37), ⟨hc39⟩, ⟨⟨hR40, trivial⟩⟩, ?_⟩
    repeat refine mo1E0 ?_
    first | exact trivial | exact rfl
   ·refine if_st H (fun h47 H => ?_) (fun h47 H => ?_)
    ·obtain ⟨v48, hv49, H⟩ := call_st H
     refine ⟨((v18.2.1, v18.2.2.1, v18.2.2.2.1, v18.2.2.2.2 + (v9 - v7)), a0.2.2.1, v48), ⟨hv49⟩, ⟨trivial⟩, ?_⟩
     iterate 2 refine And.intro ⟨rfl⟩ ?_
     iterate 4 refine mo1E0 ?_
     refine And.intro ⟨by first | omega | (dsimp only; omega)⟩ ?_
     intro q50 A51 c52 A56 c57 n60 hq53 hc58 hR59 hn61 hc54 hR55
     obtain rfl : n60 = ((v13.drop v7.toNat).take (v9.toNat - v7.toNat)).length := hn61.trans (len_vw (by first | omega | (dsimp only; omega) | (dsimp only at *; omega))).symm
     rw [es_vw] at hR55
     have hfin := fin_st H
     subst hfin
     refine ⟨(A51, c52), ⟨hc54⟩, ⟨⟨hR55, trivial⟩⟩, ?_⟩
     repeat refine mo1E0 ?_
     first | exact trivial | exact rfl
    ·refine And.intro ⟨by first | omega | (dsimp only; omega)⟩ ?_
     intro q62 A63 c64 A68 c69 n72 hq65 hc70 hR71 hn73 hc66 hR67
     obtain rfl : n72 = ((v13.drop v7.toNat).take (v9.toNat - v7.toNat)).length := hn73.trans (len_vw (by first | omega | (dsimp only; omega) | (dsimp only at *; omega))).symm
     rw [es_vw] at hR67
     have hfin := fin_st H
     subst hfin
     refine ⟨(A63, c64), ⟨hc66⟩, ⟨⟨hR67, trivial⟩⟩, ?_⟩
     repeat refine mo1E0 ?_
     first | exact trivial | exact rfl
end Go.Proofs.Ytenjkphlbdhaiaa
end
section
namespace Go.Proofs.Ytenjkphlbdhaiaa
open Go Go.Eng
theorem mo1E3 {p q : Prop} (k : q) (h : p := by first | exact rfl | exact Iff.rfl | exact ⟨rfl, rfl⟩ | exact decide_eq_true_iff | (constructor <;> first | exact rfl | (simp only [ei, eb, es, ec, c25, c105, c135, gmin, gmax, List.map_append, List.flatMap_append, List.nil_append, List.append_nil, List.append_assoc]; done) | omega | (simp only [List.nil_append, List.length_append, List.length_cons, List.length_nil]; omega) | (simp [ei, eb, es, ec, c25, c105, c135, gmin, gmax]; done)) | exact rfl | (simp only [ei, eb, es, ec, c25, c105, c135, gmin, gmax, List.map_append, List.flatMap_append, List.nil_append, List.append_nil, List.append_assoc]; done) | omega | (simp only [List.nil_append, List.length_append, List.length_cons, List.length_nil]; omega) | (simp [ei, eb, es, ec, c25, c105, c135, gmin, gmax]; done) | simp [ei, eb, es, ec, c25, c105, c135, gmin, gmax]) : Ob p ∧ q := ⟨⟨h⟩, k⟩
noncomputable def g69 (a0 : ((Int × List ByteArray × Int × Int) × List (List ByteArray) × List ((List ByteArray) × Int) × Bool × Bool × Int × Int)) : Option (((Int × List ByteArray × Int × Int) × List (List ByteArray) × List ((List ByteArray) × Int) × Bool × Bool × Int × Int)) :=
 (g11 (a0.1.1, a0.1.2.1, a0.1.2.2.1, a0.1.2.2.2)).bind fun v1 =>
 (g13 (a0.1.1, a0.1.2.1, a0.1.2.2.1, a0.1.2.2.2)).bind fun v3 =>
 ck ((a0.2.2.1.length + 1) * 32 ≤ 140737488355328) <|
 if 64 < (((a0.2.2.1 ++ ([(v1, v3)] : List ((List ByteArray) × Int))).length : Nat) : Int) then
  (
   ck (0 ≤ (1 : Int) ∧ (1 : Int) ≤ (((a0.2.2.1 ++ ([(v1, v3)] : List ((List ByteArray) × Int))).length : Nat) : Int) ∧ (((a0.2.2.1 ++ ([(v1, v3)] : List ((List ByteArray) × Int))).length : Nat) : Int) ≤ (((a0.2.2.1 ++ ([(v1, v3)] : List ((List ByteArray) × Int))).length : Nat) : Int)) <|
   (cl 32 (((a0.2.2.1 ++ ([(v1, v3)] : List ((List ByteArray) × Int))).drop ((1 : Int).toNat)).take ((((a0.2.2.1 ++ ([(v1, v3)] : List ((List ByteArray) × Int))).length : Nat) : Int).toNat - (1 : Int).toNat))).bind fun v24 =>
   some ((a0.1.1, a0.1.2.1, a0.1.2.2.1, a0.1.2.2.2), a0.2.1, (((a0.2.2.1 ++ ([(v1, v3)] : List ((List ByteArray) × Int))).drop ((1 : Int).toNat)).take ((((a0.2.2.1 ++ ([(v1, v3)] : List ((List ByteArray) × Int))).length : Nat) : Int).toNat - (1 : Int).toNat)), a0.2.2.2.1, a0.2.2.2.2.1, a0.2.2.2.2.2.1, a0.2.2.2.2.2.2)
  )
 else
  some ((a0.1.1, a0.1.2.1, a0.1.2.2.1, a0.1.2.2.2), a0.2.1, (a0.2.2.1 ++ ([(v1, v3)] : List ((List ByteArray) × Int))), a0.2.2.2.1, a0.2.2.2.2.1, a0.2.2.2.2.2.1, a0.2.2.2.2.2.2)
noncomputable def k69 : Eng.CS := { f := 69, calm := false, more := 8, ι := ((Int × List ByteArray × Int × Int) × List (List ByteArray) × List ((List ByteArray) × Int) × Bool × Bool × Int × Int) × ((Int × List ByteArray × Int × Int) × List (List ByteArray) × List ((List ByteArray) × Int) × Bool × Bool × Int × Int) × (List ((Option Addr × Nat) × List ByteArray) × List (((Option Addr × Nat) × List ByteArray) × Int)), ok := fun i => g69 i.1 = some i.2.1 ∧ i.2.2.1.map e25 = i.1.2.1 ∧ (∀ p ∈ i.2.2.1, cap25 p) ∧ i.2.2.2.map e105 = i.1.2.2.1 ∧ (∀ p ∈ i.2.2.2, cap105 p), rds := fun i => [] ++ (i.2.2.1).flatMap R25 ++ (i.2.2.2).flatMap R105, args := fun i => [.w (.lp 0 0)], res := fun _ => .bad, rn := [(100001, 1, 9, 1), (100000, 1, 25, 1), (100000, 2, 105, 2)], keys := 5, L := fun i => [(0, .cells 73 [.lp 1 0, .own 2, .own 3, bS i.1.2.2.2.1, bS i.1.2.2.2.2.1, .v (.int .i64 (i.1.2.2.2.2.2.1)), .v (.int .i64 (i.1.2.2.2.2.2.2))]), (1, .cells 43 [.v (.int .i64 (i.1.1.1)), .own 4, .v (.int .i64 (i.1.1.2.2.1)), .v (.int .i64 (i.1.1.2.2.2))]), (4, .arr 9 1 i.1.1.2.1.length (es i.1.1.2.1)), (2, .arr 25 1 i.1.2.1.length (ec c25 i.2.2.1)), (3, .arr 105 2 i.1.2.2.1.length (ec c105 i.2.2.2))], gr := true, γ := (List ((Option Addr × Nat) × List ByteArray)) × (List (((Option Addr × Nat) × List ByteArray) × Int)), resG := fun i _ => .tup [], LG := fun i g => [(0, .cells 73 [.lp 1 0, .own 5, .own 6, bS i.2.1.2.2.2.1, bS i.2.1.2.2.2.2.1, .v (.int .i64 (i.2.1.2.2.2.2.2.1)), .v (.int .i64 (i.2.1.2.2.2.2.2.2))]), (1, .cells 43 [.v (.int .i64 (i.2.1.1.1)), .own 7, .v (.int .i64 (i.2.1.1.2.2.1)), .v (.int .i64 (i.2.1.1.2.2.2))]), (7, .arr 9 1 i.2.1.1.2.1.length (es i.2.1.1.2.1)), (5, .arr 25 1 i.2.1.2.1.length (ec c25 g.1)), (6, .arr 105 2 i.2.1.2.2.1.length (ec c105 g.2))], okG := fun i g => g.1.map e25 = i.2.1.2.1 ∧ (∀ p ∈ g.1, cap25 p) ∧ g.2.map e105 = i.2.1.2.2.1 ∧ (∀ p ∈ g.2, cap105 p), rdsG := fun i g => [] ++ (g.1).flatMap R25 ++ (g.2).flatMap R105, fzr := [] }
set_option maxRecDepth 8000 in
set_option maxHeartbeats 4000000 in
theorem k69_ok : CSOk Try.prog k69 := by
 refine R.cspecG Try.func69 nm69 rfl rfl (fun _ => rfl) ?_
 rintro ⟨a0, r, ⟨X0_2, X0_3⟩⟩ ⟨hok, hE0_2, hC0_2, hE0_3, hC0_3⟩ q hrds args hargs
 obtain ⟨hrds, hF0_3⟩ := rdsOk_app.1 hrds
 obtain ⟨hrds, hF0_2⟩ := rdsOk_app.1 hrds
 dsimp only at hC0_2 hF0_2 hE0_2 hC0_3 hF0_3 hE0_3
 dsimp only [k69] at hargs ⊢
 match args, hargs with
 | [_], hargs =>
 obtain ⟨rfl, _⟩ := hargs
 refine ⟨envC [k11, k13, k82c] false [], 6, envC_ok (css_cons ⟨fun h => (by cases h), fun _ => k11_ok⟩ (css_cons ⟨fun _ => k13_ok, fun h => (by cases h)⟩ (css_cons ⟨fun h => (by cases h), fun _ => k82c_ok⟩ (css_nil)))), ?_⟩
 have H : Gives (g69 a0) (fun a => a = r) := ⟨r, hok, rfl⟩
 unfold g69 at H
 clear hok
 refine And.intro ⟨by kernel_rfl⟩ ?_
 refine ⟨(Pn.calm 0 (Pn.calm 1 (Pn.calm 2 (Pn.calm 3 (Pn.calm 4 (Pn.calm 5 (Pn.calm 6 (Pn.calm 7 (Pn.calm 8 (Pn.calm 10 (Pn.calm 11 (Pn.calm 12 (Pn.calm 13 (Pn.eff 9 [8, 7, 6, 5] (Pn.calm 14 (Pn.calm 15 (Pn.eff 16 [15, 9, 14, 8, 13, 7, 12, 6, 11, 5, 10] (Pn.eff 17 [4, 16, 14, 3, 15, 13, 9, 2, 12, 8, 1, 11, 7, 10, 6, 5] (Pn.calm 18 (Pn.calm 19 (Pn.eff 20 [19, 17, 0, 1, 2, 3, 4, 5, 6, 7, 8, 9, 10, 11, 12, 13, 14, 15, 16, 18] Pn.done Pn.no))) Pn.no) Pn.no))) Pn.no)))))))))))))), ⟨by kernel_rfl⟩, ?_⟩
 refine And.intro ?_ trivial
 obtain ⟨v1, hv2, H⟩ := call_st H
 refine ⟨((a0.1.1, a0.1.2.1, a0.1.2.2.1, a0.1.2.2.2), v1), ⟨hv2⟩, ⟨trivial⟩, ?_⟩
 iterate 4 refine mo1E3 ?_
 refine And.intro ⟨fun _ _ _ h => h⟩ ?_
 obtain ⟨v3, hv4, H⟩ := call_st H
 refine ⟨((a0.1.1, a0.1.2.1, a0.1.2.2.1, a0.1.2.2.2), v3), ⟨hv4⟩, ⟨trivial⟩, ?_⟩
 iterate 4 refine mo1E3 ?_
 refine And.intro ?_ trivial
 intro q5 A6 c7 hq8 hc9 hR10
 replace hR10 : Reads q5 A6 (es v1) := Eq.mp (congrArg (Reads q5 A6) (by first | exact rfl | (simp only [ei, eb, es, ec, c25, c105, c135, gmin, gmax, List.map_append, List.flatMap_append, List.nil_append, List.append_nil, List.append_assoc]; done))) hR10
 refine And.intro ⟨fun _ _ _ h => (hq8 _ _ _ h)⟩ ?_
 refine And.intro ?_ trivial
 refine ob_app (by decide) (by first | exact (ec_one c105_one) | ((repeat (refine List.forall_mem_cons.2 ⟨rfl, ?_⟩)); intro y hy; cases hy; done) | (intro y hy; simp [ei, eb, es, ec, c25, c105, c135] at hy; (first | (rcases hy with rfl | hy) | subst hy | skip); all_goals first | rfl | simp_all [Value.oneCell'])) H fun h11 H => ?_
 intro n12 zs14 hn13 hz15
 obtain rfl : n12 = (a0.2.2.1 ++ ([(v1, v3)] : List ((List ByteArray) × Int))).length := hn13.trans (by first | exact List.length_append.symm | (simp; done) | (simp; omega))
 obtain ⟨X16, hE17, hP18, hl19, rfl⟩ := nx (f := e105) (C := c105) (P := P105 _) (zs := zs14) (er_app hE0_3 (show List.map e105 ([(((A6, c7), v1), v3)] : List (((Option Addr × Nat) × List ByteArray) × Int)) = ([(v1, v3)] : List ((List ByteArray) × Int)) from rfl)) (pin_app (fun p hp => P105.mono hq8 ((P105.of hF0_3 hC0_3) p hp)) (pin_one ⟨hR10, hc9⟩)) (by first | exact hz15.trans (ec_app (c := c105) (xs := X0_3) (ys := ([(((A6, c7), v1), v3)] : List (((Option Addr × Nat) × List ByteArray) × Int)))).symm | (rw [hz15, (ec_vw c105_len)]; exact (ec_app (c := c105) (xs := X0_3) (ys := ([(((A6, c7), v1), v3)] : List (((Option Addr × Nat) × List ByteArray) × Int)))).symm))
 refine And.intro ⟨fun _ _ _ h => h⟩ ?_
 refine And.intro ?_ trivial
 refine And.intro ⟨fun _ _ _ h => h⟩ ?_
 refine if_st H (fun h20 H => ?_) (fun h20 H => ?_)
 ·refine ob_ck H fun h21 H => ?_
  try dsimp only at h21
  intro n22 hn23
  subst hn23
  obtain ⟨v24, hv25, H⟩ := call_st H
  have hl27 := er_len (er_vw (a := (1 : Int).toNat) (b := ((((a0.2.2.1 ++ ([(v1, v3)] : List ((List ByteArray) × Int))).length : Nat) : Int).toNat - (1 : Int).toNat)) hE17)
  obtain ⟨rfl, hg26⟩ := g82_of (X := ((X16.drop ((1 : Int).toNat)).take ((((a0.2.2.1 ++ ([(v1, v3)] : List ((List ByteArray) × Int))).length : Nat) : Int).toNat - (1 : Int).toNat))) hv25 hl27
  refine ⟨(((X16.drop ((1 : Int).toNat)).take ((((a0.2.2.1 ++ ([(v1, v3)] : List ((List ByteArray) × Int))).length : Nat) : Int).toNat - (1 : Int).toNat)), (((a0.2.2.1 ++ ([(v1, v3)] : List ((List ByteArray) × Int))).drop ((1 : Int).toNat)).take ((((a0.2.2.1 ++ ([(v1, v3)] : List ((List ByteArray) × Int))).length : Nat) : Int).toNat - (1 : Int).toNat)).length), ⟨hl27.symm, hg26⟩, ⟨trivial⟩, ?_⟩
  refine And.intro ⟨(len_vw (by first | omega | (dsimp only; omega))).symm, by first | omega | (dsimp only; omega), (ec_vw c105_len)⟩ ?_
  have hfin := fin_st H
  subst hfin
  refine ⟨(X0_2, ((X16.drop ((1 : Int).toNat)).take ((((a0.2.2.1 ++ ([(v1, v3)] : List ((List ByteArray) × Int))).length : Nat) : Int).toNat - (1 : Int).toNat))), ⟨⟨hE0_2, P25.cap (fun p hp => P25.mono hq8 ((P25.of hF0_2 hC0_2) p hp)), (er_vw (a := (1 : Int).toNat) (b := ((((a0.2.2.1 ++ ([(v1, v3)] : List ((List ByteArray) × Int))).length : Nat) : Int).toNat - (1 : Int).toNat)) hE17), P105.cap (pin_vw hP18)⟩⟩, ⟨(rdsOk_app.2 ⟨(rdsOk_app.2 ⟨trivial, P25.rds (fun p hp => P25.mono hq8 ((P25.of hF0_2 hC0_2) p hp))⟩), P105.rds (pin_vw hP18)⟩)⟩, ?_⟩
  repeat refine mo1E3 ?_
  first | exact trivial | exact rfl
 ·have hfin := fin_st H
  subst hfin
  refine ⟨(X0_2, X16), ⟨⟨hE0_2, P25.cap (fun p hp => P25.mono hq8 ((P25.of hF0_2 hC0_2) p hp)), hE17, P105.cap hP18⟩⟩, ⟨(rdsOk_app.2 ⟨(rdsOk_app.2 ⟨trivial, P25.rds (fun p hp => P25.mono hq8 ((P25.of hF0_2 hC0_2) p hp))⟩), P105.rds hP18⟩)⟩, ?_⟩
  repeat refine mo1E3 ?_
  first | exact trivial | exact rfl
noncomputable def g80 (a0 : ((Int × List ByteArray × Int × Int) × List (List ByteArray) × List ((List ByteArray) × Int) × Bool × Bool × Int × Int)) (a1 : List ByteArray) (a2 : Int) : Option (((Int × List ByteArray × Int × Int) × List (List ByteArray) × List ((List ByteArray) × Int) × Bool × Bool × Int × Int)) :=
 (g20 (a0.1.1, a0.1.2.1, a0.1.2.2.1, a0.1.2.2.2)).bind fun v28 =>
 (g19 (a0.1.1, a0.1.2.1, a0.1.2.2.1, a0.1.2.2.2) 0 v28).bind fun v30 =>
 (g21 (v30.2.1, v30.2.2.1, v30.2.2.2.1, v30.2.2.2.2) a1).bind fun v41 =>
 (g12 (v41.2.1, v41.2.2.1, v41.2.2.2.1, v41.2.2.2.2) a2).bind fun v43 =>
 some ((v43.2.1, v43.2.2.1, v43.2.2.2.1, v43.2.2.2.2), a0.2.1, a0.2.2.1, a0.2.2.2.1, a0.2.2.2.2.1, a0.2.2.2.2.2.1, a0.2.2.2.2.2.2)
noncomputable def k80 : Eng.CS := { f := 80, calm := false, more := 8, ι := ((Int × List ByteArray × Int × Int) × List (List ByteArray) × List ((List ByteArray) × Int) × Bool × Bool × Int × Int) × (List ByteArray) × Int × ((Int × List ByteArray × Int × Int) × List (List ByteArray) × List ((List ByteArray) × Int) × Bool × Bool × Int × Int) × ((Option Addr × Nat)) × (List ((Option Addr × Nat) × List ByteArray) × List (((Option Addr × Nat) × List ByteArray) × Int)), ok := fun i => g80 i.1 i.2.1 i.2.2.1 = some i.2.2.2.1 ∧ i.2.1.length ≤ i.2.2.2.2.1.2 ∧ i.2.2.2.2.2.1.map e25 = i.1.2.1 ∧ (∀ p ∈ i.2.2.2.2.2.1, cap25 p) ∧ i.2.2.2.2.2.2.map e105 = i.1.2.2.1 ∧ (∀ p ∈ i.2.2.2.2.2.2, cap105 p), rds := fun i => [(i.2.2.2.2.1.1, es i.2.1)] ++ (i.2.2.2.2.2.1).flatMap R25 ++ (i.2.2.2.2.2.2).flatMap R105, args := fun i => [.w (.lp 0 0), .w (.v (.slice i.2.2.2.2.1.1 i.2.1.length i.2.2.2.2.1.2)), .w (.v (.int .i64 (i.2.2.1)))], res := fun _ => .bad, rn := [(100001, 1, 9, 1), (100000, 1, 25, 1), (100000, 2, 105, 2)], keys := 5, L := fun i => [(0, .cells 73 [.lp 1 0, .own 2, .own 3, bS i.1.2.2.2.1, bS i.1.2.2.2.2.1, .v (.int .i64 (i.1.2.2.2.2.2.1)), .v (.int .i64 (i.1.2.2.2.2.2.2))]), (1, .cells 43 [.v (.int .i64 (i.1.1.1)), .own 4, .v (.int .i64 (i.1.1.2.2.1)), .v (.int .i64 (i.1.1.2.2.2))]), (4, .arr 9 1 i.1.1.2.1.length (es i.1.1.2.1)), (2, .arr 25 1 i.1.2.1.length (ec c25 i.2.2.2.2.2.1)), (3, .arr 105 2 i.1.2.2.1.length (ec c105 i.2.2.2.2.2.2))], gr := true, γ := (List ((Option Addr × Nat) × List ByteArray)) × (List (((Option Addr × Nat) × List ByteArray) × Int)), resG := fun i _ => .tup [], LG := fun i g => [(0, .cells 73 [.lp 1 0, .own 5, .own 6, bS i.2.2.2.1.2.2.2.1, bS i.2.2.2.1.2.2.2.2.1, .v (.int .i64 (i.2.2.2.1.2.2.2.2.2.1)), .v (.int .i64 (i.2.2.2.1.2.2.2.2.2.2))]), (1, .cells 43 [.v (.int .i64 (i.2.2.2.1.1.1)), .own 7, .v (.int .i64 (i.2.2.2.1.1.2.2.1)), .v (.int .i64 (i.2.2.2.1.1.2.2.2))]), (7, .arr 9 1 i.2.2.2.1.1.2.1.length (es i.2.2.2.1.1.2.1)), (5, .arr 25 1 i.2.2.2.1.2.1.length (ec c25 g.1)), (6, .arr 105 2 i.2.2.2.1.2.2.1.length (ec c105 g.2))], okG := fun i g => g.1.map e25 = i.2.2.2.1.2.1 ∧ (∀ p ∈ g.1, cap25 p) ∧ g.2.map e105 = i.2.2.2.1.2.2.1 ∧ (∀ p ∈ g.2, cap105 p), rdsG := fun i g => [] ++ (g.1).flatMap R25 ++ (g.2).flatMap R105, fzr := [] }
set_option maxRecDepth 8000 in
set_option maxHeartbeats 4000000 in
theorem k80_ok : CSOk Try.prog k80 := by
 refine R.cspecG Try.func80 nm80 rfl rfl (fun _ => rfl) ?_
 rintro ⟨a0, a1, a2, r, ⟨A1_0, cp1_0⟩, ⟨X0_2, X0_3⟩⟩ ⟨hok, hc1_0, hE0_2, hC0_2, hE0_3, hC0_3⟩ q hrds args hargs
 obtain ⟨hrds, hF0_3⟩ := rdsOk_app.1 hrds
 obtain ⟨hrds, hF0_2⟩ := rdsOk_app.1 hrds
 obtain ⟨hR1_0, _⟩ := hrds
 dsimp only at hR1_0 hc1_0 hC0_2 hF0_2 hE0_2 hC0_3 hF0_3 hE0_3
 dsimp only [k80] at hargs ⊢
 match args, hargs with
 | [_, _, _], hargs =>
 obtain ⟨rfl, rfl, rfl, _⟩ := hargs
 refine ⟨envC [k12, k19, k20, k21] false [], 6, envC_ok (css_cons ⟨fun h => (by cases h), fun _ => k12_ok⟩ (css_cons ⟨fun h => (by cases h), fun _ => k19_ok⟩ (css_cons ⟨fun _ => k20_ok, fun h => (by cases h)⟩ (css_cons ⟨fun h => (by cases h), fun _ => k21_ok⟩ (css_nil))))), ?_⟩
 have H : Gives (g80 a0 a1 a2) (fun a => a = r) := ⟨r, hok, rfl⟩
 unfold g80 at H
 clear hok
 refine And.intro ⟨by kernel_rfl⟩ ?_
 refine ⟨(Pn.calm 0 (Pn.calm 1 (Pn.calm 2 (Pn.calm 3 (Pn.calm 4 (Pn.calm 5 (Pn.calm 6 (Pn.calm 7 (Pn.calm 8 (Pn.eff 9 [3, 8, 2, 7, 1, 6, 0, 5, 4] Pn.done Pn.no)))))))))), ⟨by kernel_rfl⟩, ?_⟩
 obtain ⟨v28, hv29, H⟩ := call_st H
 refine ⟨((a0.1.1, a0.1.2.1, a0.1.2.2.1, a0.1.2.2.2), v28), ⟨hv29⟩, ⟨trivial⟩, ?_⟩
 iterate 4 refine mo1E3 ?_
 refine And.intro ?_ trivial
 obtain ⟨v30, hv31, H⟩ := call_st H
 refine ⟨((a0.1.1, a0.1.2.1, a0.1.2.2.1, a0.1.2.2.2), 0, v28, v30), ⟨hv31⟩, ⟨trivial⟩, ?_⟩
 iterate 3 refine And.intro ⟨rfl⟩ ?_
 iterate 4 refine mo1E3 ?_
 intro q32 g33 hq34 hok35 hrd36
 obtain ⟨A37, c38⟩ := g33
 have hc39 := hok35
 obtain ⟨hR40, _⟩ := hrd36
 try dsimp only at hc39 hR40
 refine And.intro ⟨fun _ _ _ h => (hq34 _ _ _ h)⟩ ?_
 obtain ⟨v41, hv42, H⟩ := call_st H
 refine ⟨((v30.2.1, v30.2.2.1, v30.2.2.2.1, v30.2.2.2.2), a1, v41), ⟨hv42⟩, ⟨trivial⟩, ?_⟩
 refine And.intro ⟨rfl⟩ ?_
 refine And.intro ⟨rfl, hc1_0, es_len.trans ((show _ = _ from rfl).trans (Nat.mul_one _).symm), (Reads.mono hq34 hR1_0)⟩ ?_
 iterate 4 refine mo1E3 ?_
 obtain ⟨v43, hv44, H⟩ := call_st H
 refine ⟨((v41.2.1, v41.2.2.1, v41.2.2.2.1, v41.2.2.2.2), a2, v43), ⟨hv44⟩, ⟨trivial⟩, ?_⟩
 iterate 2 refine And.intro ⟨rfl⟩ ?_
 iterate 4 refine mo1E3 ?_
 have hfin := fin_st H
 subst hfin
 refine ⟨(X0_2, X0_3), ⟨⟨hE0_2, P25.cap (fun p hp => P25.mono hq34 ((P25.of hF0_2 hC0_2) p hp)), hE0_3, P105.cap (fun p hp => P105.mono hq34 ((P105.of hF0_3 hC0_3) p hp))⟩⟩, ⟨(rdsOk_app.2 ⟨(rdsOk_app.2 ⟨trivial, P25.rds (fun p hp => P25.mono hq34 ((P25.of hF0_2 hC0_2) p hp))⟩), P105.rds (fun p hp => P105.mono hq34 ((P105.of hF0_3 hC0_3) p hp))⟩)⟩, ?_⟩
 repeat refine mo1E3 ?_
 first | exact trivial | exact rfl
noncomputable def g73 (a0 : ((Int × List ByteArray × Int × Int) × List (List ByteArray) × List ((List ByteArray) × Int) × Bool × Bool × Int × Int)) (a1 : Int) (a2 : Int) : Option (Bool × ((Int × List ByteArray × Int × Int) × List (List ByteArray) × List ((List ByteArray) × Int) × Bool × Bool × Int × Int)) :=
 if a1 < 0 then
  some (false, ((a0.1.1, a0.1.2.1, a0.1.2.2.1, a0.1.2.2.2), a0.2.1, a0.2.2.1, false, false, a0.2.2.2.2.2.1, a0.2.2.2.2.2.2))
 else
  (
   (g20 (a0.1.1, a0.1.2.1, a0.1.2.2.1, a0.1.2.2.2)).bind fun v55 =>
   if v55 < a2 then
    some (false, ((a0.1.1, a0.1.2.1, a0.1.2.2.1, a0.1.2.2.2), a0.2.1, a0.2.2.1, false, false, a0.2.2.2.2.2.1, a0.2.2.2.2.2.2))
   else
    (
     if a2 ≤ a1 then
      some (false, ((a0.1.1, a0.1.2.1, a0.1.2.2.1, a0.1.2.2.2), a0.2.1, a0.2.2.1, false, false, a0.2.2.2.2.2.1, a0.2.2.2.2.2.2))
     else
      (
       (g69 ((a0.1.1, a0.1.2.1, a0.1.2.2.1, a0.1.2.2.2), a0.2.1, a0.2.2.1, false, false, a0.2.2.2.2.2.1, a0.2.2.2.2.2.2)).bind fun v59 =>
       (g19 (v59.1.1, v59.1.2.1, v59.1.2.2.1, v59.1.2.2.2) a1 a2).bind fun v74 =>
       (g12 (v74.2.1, v74.2.2.1, v74.2.2.2.1, v74.2.2.2.2) a1).bind fun v85 =>
       some (true, ((v85.2.1, v85.2.2.1, v85.2.2.2.1, v85.2.2.2.2), v59.2.1, v59.2.2.1, v59.2.2.2.1, v59.2.2.2.2.1, v59.2.2.2.2.2.1, v59.2.2.2.2.2.2))
      )
    )
  )
noncomputable def k73 : Eng.CS := { f := 73, calm := false, more := 8, ι := ((Int × List ByteArray × Int × Int) × List (List ByteArray) × List ((List ByteArray) × Int) × Bool × Bool × Int × Int) × Int × Int × (Bool × ((Int × List ByteArray × Int × Int) × List (List ByteArray) × List ((List ByteArray) × Int) × Bool × Bool × Int × Int)) × (List ((Option Addr × Nat) × List ByteArray) × List (((Option Addr × Nat) × List ByteArray) × Int)), ok := fun i => g73 i.1 i.2.1 i.2.2.1 = some i.2.2.2.1 ∧ i.2.2.2.2.1.map e25 = i.1.2.1 ∧ (∀ p ∈ i.2.2.2.2.1, cap25 p) ∧ i.2.2.2.2.2.map e105 = i.1.2.2.1 ∧ (∀ p ∈ i.2.2.2.2.2, cap105 p), rds := fun i => [] ++ (i.2.2.2.2.1).flatMap R25 ++ (i.2.2.2.2.2).flatMap R105, args := fun i => [.w (.lp 0 0), .w (.v (.int .i64 (i.2.1))), .w (.v (.int .i64 (i.2.2.1)))], res := fun _ => .bad, rn := [(100001, 1, 9, 1), (100000, 1, 25, 1), (100000, 2, 105, 2)], keys := 5, L := fun i => [(0, .cells 73 [.lp 1 0, .own 2, .own 3, bS i.1.2.2.2.1, bS i.1.2.2.2.2.1, .v (.int .i64 (i.1.2.2.2.2.2.1)), .v (.int .i64 (i.1.2.2.2.2.2.2))]), (1, .cells 43 [.v (.int .i64 (i.1.1.1)), .own 4, .v (.int .i64 (i.1.1.2.2.1)), .v (.int .i64 (i.1.1.2.2.2))]), (4, .arr 9 1 i.1.1.2.1.length (es i.1.1.2.1)), (2, .arr 25 1 i.1.2.1.length (ec c25 i.2.2.2.2.1)), (3, .arr 105 2 i.1.2.2.1.length (ec c105 i.2.2.2.2.2))], gr := true, γ := (List ((Option Addr × Nat) × List ByteArray)) × (List (((Option Addr × Nat) × List ByteArray) × Int)), resG := fun i _ => bS i.2.2.2.1.1, LG := fun i g => [(0, .cells 73 [.lp 1 0, .own 5, .own 6, bS i.2.2.2.1.2.2.2.2.1, bS i.2.2.2.1.2.2.2.2.2.1, .v (.int .i64 (i.2.2.2.1.2.2.2.2.2.2.1)), .v (.int .i64 (i.2.2.2.1.2.2.2.2.2.2.2))]), (1, .cells 43 [.v (.int .i64 (i.2.2.2.1.2.1.1)), .own 7, .v (.int .i64 (i.2.2.2.1.2.1.2.2.1)), .v (.int .i64 (i.2.2.2.1.2.1.2.2.2))]), (7, .arr 9 1 i.2.2.2.1.2.1.2.1.length (es i.2.2.2.1.2.1.2.1)), (5, .arr 25 1 i.2.2.2.1.2.2.1.length (ec c25 g.1)), (6, .arr 105 2 i.2.2.2.1.2.2.2.1.length (ec c105 g.2))], okG := fun i g => g.1.map e25 = i.2.2.2.1.2.2.1 ∧ (∀ p ∈ g.1, cap25 p) ∧ g.2.map e105 = i.2.2.2.1.2.2.2.1 ∧ (∀ p ∈ g.2, cap105 p), rdsG := fun i g => [] ++ (g.1).flatMap R25 ++ (g.2).flatMap R105, fzr := [] }
set_option maxRecDepth 8000 in
set_option maxHeartbeats 4000000 in
theorem k73_ok : CSOk Try.prog k73 := by
 refine R.cspecG Try.func73 nm73 rfl rfl (fun _ => rfl) ?_
 rintro ⟨a0, a1, a2, r, ⟨X0_2, X0_3⟩⟩ ⟨hok, hE0_2, hC0_2, hE0_3, hC0_3⟩ q hrds args hargs
 obtain ⟨hrds, hF0_3⟩ := rdsOk_app.1 hrds
 obtain ⟨hrds, hF0_2⟩ := rdsOk_app.1 hrds
 dsimp only at hC0_2 hF0_2 hE0_2 hC0_3 hF0_3 hE0_3
 dsimp only [k73] at hargs ⊢
 match args, hargs with
 | [_, _, _], hargs =>
 obtain ⟨rfl, rfl, rfl, _⟩ := hargs
 refine ⟨envC [k12, k19, k20, k69] false [], 6, envC_ok (css_cons ⟨fun h => (by cases h), fun _ => k12_ok⟩ (css_cons ⟨fun h => (by cases h), fun _ => k19_ok⟩ (css_cons ⟨fun _ => k20_ok, fun h => (by cases h)⟩ (css_cons ⟨fun h => (by cases h), fun _ => k69_ok⟩ (css_nil))))), ?_⟩
 have H : Gives (g73 a0 a1 a2) (fun a => a = r) := ⟨r, hok, rfl⟩
 unfold g73 at H
 clear hok
 refine if_st H (fun h54 H => ?_) (fun h54 H => ?_)
 ·have hfin := fin_st H
  subst hfin
  refine ⟨(X0_2, X0_3), ⟨⟨hE0_2, P25.cap (P25.of hF0_2 hC0_2), hE0_3, P105.cap (P105.of hF0_3 hC0_3)⟩⟩, ⟨(rdsOk_app.2 ⟨(rdsOk_app.2 ⟨trivial, P25.rds (P25.of hF0_2 hC0_2)⟩), P105.rds (P105.of hF0_3 hC0_3)⟩)⟩, ?_⟩
  repeat refine mo1E3 ?_
  first | exact trivial | exact rfl
 ·obtain ⟨v55, hv56, H⟩ := call_st H
  refine ⟨((a0.1.1, a0.1.2.1, a0.1.2.2.1, a0.1.2.2.2), v55), ⟨hv56⟩, ⟨trivial⟩, ?_⟩
  iterate 4 refine mo1E3 ?_
  refine if_st H (fun h57 H => ?_) (fun h57 H => ?_)
  ·have hfin := fin_st H
   subst hfin
   refine ⟨(X0_2, X0_3), ⟨⟨hE0_2, P25.cap (P25.of hF0_2 hC0_2), hE0_3, P105.cap (P105.of hF0_3 hC0_3)⟩⟩, ⟨(rdsOk_app.2 ⟨(rdsOk_app.2 ⟨trivial, P25.rds (P25.of hF0_2 hC0_2)⟩), P105.rds (P105.of hF0_3 hC0_3)⟩)⟩, ?_⟩
   repeat refine mo1E3 ?_
   first | exact trivial | exact rfl
  ·refine if_st H (fun h58 H => ?_) (fun h58 H => ?_)
   ·have hfin := fin_st H
    subst hfin
    refine ⟨(X0_2, X0_3), ⟨⟨hE0_2, P25.cap (P25.of hF0_2 hC0_2), hE0_3, P105.cap (P105.of hF0_3 hC0_3)⟩⟩, ⟨(rdsOk_app.2 ⟨(rdsOk_app.2 ⟨trivial, P25.rds (P25.of hF0_2 hC0_2)⟩), P105.rds (P105.of hF0_3 hC0_3)⟩)⟩, ?_⟩
    repeat refine mo1E3 ?_
    first | exact trivial | exact rfl
   ·obtain ⟨v59, hv60, H⟩ := call_st H
    refine ⟨(((a0.1.1, a0.1.2.1, a0.1.2.2.1, a0.1.2.2.2), a0.2.1, a0.2.2.1, false, false, a0.2.2.2.2.2.1, a0.2.2.2.2.2.2), v59, (X0_2, X0_3)), ⟨hv60, hE0_2, P25.cap (P25.of hF0_2 hC0_2), hE0_3, P105.cap (P105.of hF0_3 hC0_3)⟩, ⟨(rdsOk_app.2 ⟨(rdsOk_app.2 ⟨trivial, P25.rds (P25.of hF0_2 hC0_2)⟩), P105.rds (P105.of hF0_3 hC0_3)⟩)⟩, ?_⟩
    refine And.intro ⟨rfl⟩ ?_
    iterate 11 refine mo1E3 ?_
    intro q61 g62 hq63 hok64 hrd65
    obtain ⟨X68, X72⟩ := g62
    obtain ⟨hE69, hC66, hE73, hC70⟩ := hok64
    obtain ⟨hrd65, hF71⟩ := rdsOk_app.1 hrd65
    obtain ⟨hrd65, hF67⟩ := rdsOk_app.1 hrd65
    try dsimp only at hC66 hF67 hE69 hC70 hF71 hE73
    obtain ⟨v74, hv75, H⟩ := call_st H
    refine ⟨((v59.1.1, v59.1.2.1, v59.1.2.2.1, v59.1.2.2.2), a1, a2, v74), ⟨hv75⟩, ⟨trivial⟩, ?_⟩
    iterate 3 refine And.intro ⟨rfl⟩ ?_
    iterate 4 refine mo1E3 ?_
    intro q76 g77 hq78 hok79 hrd80
    obtain ⟨A81, c82⟩ := g77
    have hc83 := hok79
    obtain ⟨hR84, _⟩ := hrd80
    try dsimp only at hc83 hR84
    obtain ⟨v85, hv86, H⟩ := call_st H
    refine ⟨((v74.2.1, v74.2.2.1, v74.2.2.2.1, v74.2.2.2.2), a1, v85), ⟨hv86⟩, ⟨trivial⟩, ?_⟩
    iterate 2 refine And.intro ⟨rfl⟩ ?_
    iterate 4 refine mo1E3 ?_
    have hfin := fin_st H
    subst hfin
    refine ⟨(X68, X72), ⟨⟨hE69, P25.cap (fun p hp => P25.mono hq78 ((P25.of hF67 hC66) p hp)), hE73, P105.cap (fun p hp => P105.mono hq78 ((P105.of hF71 hC70) p hp))⟩⟩, ⟨(rdsOk_app.2 ⟨(rdsOk_app.2 ⟨trivial, P25.rds (fun p hp => P25.mono hq78 ((P25.of hF67 hC66) p hp))⟩), P105.rds (fun p hp => P105.mono hq78 ((P105.of hF71 hC70) p hp))⟩)⟩, ?_⟩
    repeat refine mo1E3 ?_
    first | exact trivial | exact rfl
end Go.Proofs.Ytenjkphlbdhaiaa
end
section
namespace Go.Proofs.Ytenjkphlbdhaiaa
open Go Go.Eng
theorem mo1E5 {p q : Prop} (k : q) (h : p := by first | exact rfl | exact Iff.rfl | exact ⟨rfl, rfl⟩ | exact decide_eq_true_iff | (constructor <;> first | exact rfl | (simp only [ei, eb, es, ec, c25, c105, c135, gmin, gmax, List.map_append, List.flatMap_append, List.nil_append, List.append_nil, List.append_assoc]; done) | omega | (simp only [List.nil_append, List.length_append, List.length_cons, List.length_nil]; omega) | (simp [ei, eb, es, ec, c25, c105, c135, gmin, gmax]; done)) | exact rfl | (simp only [ei, eb, es, ec, c25, c105, c135, gmin, gmax, List.map_append, List.flatMap_append, List.nil_append, List.append_nil, List.append_assoc]; done) | omega | (simp only [List.nil_append, List.length_append, List.length_cons, List.length_nil]; omega) | (simp [ei, eb, es, ec, c25, c105, c135, gmin, gmax]; done) | simp [ei, eb, es, ec, c25, c105, c135, gmin, gmax]) : Ob p ∧ q := ⟨⟨h⟩, k⟩
noncomputable def g75 (a0 : ((Int × List ByteArray × Int × Int) × List (List ByteArray) × List ((List ByteArray) × Int) × Bool × Bool × Int × Int)) (a1 : Int) (a2 : Int) : Option (Bool × ((Int × List ByteArray × Int × Int) × List (List ByteArray) × List ((List ByteArray) × Int) × Bool × Bool × Int × Int)) :=
 (g13 (a0.1.1, a0.1.2.1, a0.1.2.2.1, a0.1.2.2.2)).bind fun v1 =>
 if ((a0.2.1.length : Nat) : Int) ≤ a1 then
  some (false, ((a0.1.1, a0.1.2.1, a0.1.2.2.1, a0.1.2.2.2), a0.2.1, a0.2.2.1, false, false, a0.2.2.2.2.2.1, a0.2.2.2.2.2.2))
 else
  (
   ck (0 ≤ a1 ∧ a1 < ((a0.2.1.length : Nat) : Int)) <|
   (g18 (a0.1.1, a0.1.2.1, a0.1.2.2.1, a0.1.2.2.2)).bind fun v39 =>
   ck (inR .i64 (v39 + v1)) <|
   ck (inR .i64 ((v39 + v1) - a2)) <|
   if ((v39 + v1) - a2) < (((a0.2.1.getD a1.toNat default).length : Nat) : Int) then
    some (false, ((a0.1.1, a0.1.2.1, a0.1.2.2.1, a0.1.2.2.2), a0.2.1, a0.2.2.1, false, false, a0.2.2.2.2.2.1, a0.2.2.2.2.2.2))
   else
    (
     (g69 ((a0.1.1, a0.1.2.1, a0.1.2.2.1, a0.1.2.2.2), a0.2.1, a0.2.2.1, false, false, a0.2.2.2.2.2.1, a0.2.2.2.2.2.2)).bind fun v44 =>
     (g19 (v44.1.1, v44.1.2.1, v44.1.2.2.1, v44.1.2.2.2) a2 v1).bind fun v59 =>
     (g12 (v59.2.1, v59.2.2.1, v59.2.2.2.1, v59.2.2.2.2) a2).bind fun v70 =>
     ck (0 ≤ a1 ∧ a1 < ((v44.2.1.length : Nat) : Int)) <|
     (g21 (v70.2.1, v70.2.2.1, v70.2.2.2.1, v70.2.2.2.2) (v44.2.1.getD a1.toNat default)).bind fun v80 =>
     some (true, ((v80.2.1, v80.2.2.1, v80.2.2.2.1, v80.2.2.2.2), v44.2.1, v44.2.2.1, v44.2.2.2.1, true, a2, a1))
    )
  )
noncomputable def k75 : Eng.CS := { f := 75, calm := false, more := 8, ι := ((Int × List ByteArray × Int × Int) × List (List ByteArray) × List ((List ByteArray) × Int) × Bool × Bool × Int × Int) × Int × Int × (Bool × ((Int × List ByteArray × Int × Int) × List (List ByteArray) × List ((List ByteArray) × Int) × Bool × Bool × Int × Int)) × (List ((Option Addr × Nat) × List ByteArray) × List (((Option Addr × Nat) × List ByteArray) × Int)), ok := fun i => g75 i.1 i.2.1 i.2.2.1 = some i.2.2.2.1 ∧ i.2.2.2.2.1.map e25 = i.1.2.1 ∧ (∀ p ∈ i.2.2.2.2.1, cap25 p) ∧ i.2.2.2.2.2.map e105 = i.1.2.2.1 ∧ (∀ p ∈ i.2.2.2.2.2, cap105 p), rds := fun i => [] ++ (i.2.2.2.2.1).flatMap R25 ++ (i.2.2.2.2.2).flatMap R105, args := fun i => [.w (.lp 0 0), .w (.v (.int .i64 (i.2.1))), .w (.v (.int .i64 (i.2.2.1)))], res := fun _ => .bad, rn := [(100001, 1, 9, 1), (100000, 1, 25, 1), (100000, 2, 105, 2)], keys := 5, L := fun i => [(0, .cells 73 [.lp 1 0, .own 2, .own 3, bS i.1.2.2.2.1, bS i.1.2.2.2.2.1, .v (.int .i64 (i.1.2.2.2.2.2.1)), .v (.int .i64 (i.1.2.2.2.2.2.2))]), (1, .cells 43 [.v (.int .i64 (i.1.1.1)), .own 4, .v (.int .i64 (i.1.1.2.2.1)), .v (.int .i64 (i.1.1.2.2.2))]), (4, .arr 9 1 i.1.1.2.1.length (es i.1.1.2.1)), (2, .arr 25 1 i.1.2.1.length (ec c25 i.2.2.2.2.1)), (3, .arr 105 2 i.1.2.2.1.length (ec c105 i.2.2.2.2.2))], gr := true, γ := (List ((Option Addr × Nat) × List ByteArray)) × (List (((Option Addr × Nat) × List ByteArray) × Int)), resG := fun i _ => bS i.2.2.2.1.1, LG := fun i g => [(0, .cells 73 [.lp 1 0, .own 5, .own 6, bS i.2.2.2.1.2.2.2.2.1, bS i.2.2.2.1.2.2.2.2.2.1, .v (.int .i64 (i.2.2.2.1.2.2.2.2.2.2.1)), .v (.int .i64 (i.2.2.2.1.2.2.2.2.2.2.2))]), (1, .cells 43 [.v (.int .i64 (i.2.2.2.1.2.1.1)), .own 7, .v (.int .i64 (i.2.2.2.1.2.1.2.2.1)), .v (.int .i64 (i.2.2.2.1.2.1.2.2.2))]), (7, .arr 9 1 i.2.2.2.1.2.1.2.1.length (es i.2.2.2.1.2.1.2.1)), (5, .arr 25 1 i.2.2.2.1.2.2.1.length (ec c25 g.1)), (6, .arr 105 2 i.2.2.2.1.2.2.2.1.length (ec c105 g.2))], okG := fun i g => g.1.map e25 = i.2.2.2.1.2.2.1 ∧ (∀ p ∈ g.1, cap25 p) ∧ g.2.map e105 = i.2.2.2.1.2.2.2.1 ∧ (∀ p ∈ g.2, cap105 p), rdsG := fun i g => [] ++ (g.1).flatMap R25 ++ (g.2).flatMap R105, fzr := [] }
set_option maxRecDepth 8000 in
set_option maxHeartbeats 4000000 in
theorem k75_ok : CSOk Try.prog k75 := by
 refine R.cspecG Try.func75 nm75 rfl rfl (fun _ => rfl) ?_
 rintro ⟨a0, a1, a2, r, ⟨X0_2, X0_3⟩⟩ ⟨hok, hE0_2, hC0_2, hE0_3, hC0_3⟩ q hrds args hargs
 obtain ⟨hrds, hF0_3⟩ := rdsOk_app.1 hrds
 obtain ⟨hrds, hF0_2⟩ := rdsOk_app.1 hrds
 dsimp only at hC0_2 hF0_2 hE0_2 hC0_3 hF0_3 hE0_3
 dsimp only [k75] at hargs ⊢
 match args, hargs with
 | [_, _, _], hargs =>
 obtain ⟨rfl, rfl, rfl, _⟩ := hargs
 refine ⟨envC [k12, k13, k18, k19, k21, k69] false [], 6, envC_ok (css_cons ⟨fun h => (by cases h), fun _ => k12_ok⟩ (css_cons ⟨fun _ => k13_ok, fun h => (by cases h)⟩ (css_cons ⟨fun _ => k18_ok, fun h => (by cases h)⟩ (css_cons ⟨fun h => (by cases h), fun _ => k19_ok⟩ (css_cons ⟨fun h => (by cases h), fun _ => k21_ok⟩ (css_cons ⟨fun h => (by cases h), fun _ => k69_ok⟩ (css_nil))))))), ?_⟩
 have H : Gives (g75 a0 a1 a2) (fun a => a = r) := ⟨r, hok, rfl⟩
 unfold g75 at H
 clear hok
 obtain ⟨v1, hv2, H⟩ := call_st H
 refine ⟨((a0.1.1, a0.1.2.1, a0.1.2.2.1, a0.1.2.2.2), v1), ⟨hv2⟩, ⟨trivial⟩, ?_⟩
 iterate 4 refine mo1E5 ?_
 refine And.intro ⟨by kernel_rfl⟩ ?_
 refine if_st H (fun h30 H => ?_) (fun h30 H => ?_)
 ·have hfin := fin_st H
  subst hfin
  refine ⟨(X0_2, X0_3), ⟨⟨hE0_2, P25.cap (P25.of hF0_2 hC0_2), hE0_3, P105.cap (P105.of hF0_3 hC0_3)⟩⟩, ⟨(rdsOk_app.2 ⟨(rdsOk_app.2 ⟨trivial, P25.rds (P25.of hF0_2 hC0_2)⟩), P105.rds (P105.of hF0_3 hC0_3)⟩)⟩, ?_⟩
  repeat refine mo1E5 ?_
  first | exact trivial | exact rfl
 ·refine ob_ck H fun h31 H => ?_
  have hel32 : e25 (X0_2.getD a1.toNat default) = a0.2.1.getD a1.toNat default := er_get hE0_2 (by first | exact tn h31 | (have := tn h31; simp at this ⊢; omega) | (have := tn h31; simp; omega))
  have hr33 : (X0_2.getD a1.toNat default).2 = (a0.2.1.getD a1.toNat default) := congrArg (fun z => z) hel32
  obtain ⟨A34, c35, hA36⟩ : ∃ A c, (A = (X0_2.getD a1.toNat default).1.1 ∧ c = (X0_2.getD a1.toNat default).1.2) := ⟨_, _, rfl, rfl⟩
  have hR37 := rd_eq (f := es) hr33 ((P25.of hF0_2 hC0_2) _ (getD_mem (Nat.lt_of_lt_of_eq (by first | exact tn h31 | (have := tn h31; simp at this ⊢; omega) | (have := tn h31; simp; omega)) (er_len hE0_2).symm))).1
  rw [← hA36.1] at hR37
  have hc38 : (a0.2.1.getD a1.toNat default).length ≤ c35 := by rw [hA36.2]; exact Nat.le_trans (Nat.le_of_eq (congrArg List.length hr33.symm)) ((P25.of hF0_2 hC0_2) _ (getD_mem (Nat.lt_of_lt_of_eq (by first | exact tn h31 | (have := tn h31; simp at this ⊢; omega) | (have := tn h31; simp; omega)) (er_len hE0_2).symm))).2
  refine ld_sl (A := A34) (n := (a0.2.1.getD a1.toNat default).length) (c := c35) (by rw [hA36.1, hA36.2]; exact (own_get (ys := ec c25 X0_2) (by first | rfl | simp [ei, eb, es, ec, c25, c105, c135]) ((ec_get1 (i := a1.toNat) c25_len (Nat.lt_of_lt_of_eq (by first | exact tn h31 | (have := tn h31; simp at this ⊢; omega) | (have := tn h31; simp; omega)) (er_len hE0_2).symm)).trans rfl)).trans (congrArg (fun z => some (Value.slice (X0_2.getD a1.toNat default).1.1 z (X0_2.getD a1.toNat default).1.2)) (congrArg List.length hr33))) ?_
  obtain ⟨v39, hv40, H⟩ := call_st H
  refine ⟨((a0.1.1, a0.1.2.1, a0.1.2.2.1, a0.1.2.2.2), v39), ⟨hv40⟩, ⟨trivial⟩, ?_⟩
  iterate 4 refine mo1E5 ?_
  refine ob_ck H fun h41 H => ?_
  refine ob_ck H fun h42 H => ?_
  refine if_st H (fun h43 H => ?_) (fun h43 H => ?_)
  ·have hfin := fin_st H
   subst hfin
   refine ⟨(X0_2, X0_3), ⟨⟨hE0_2, P25.cap (P25.of hF0_2 hC0_2), hE0_3, P105.cap (P105.of hF0_3 hC0_3)⟩⟩, ⟨(rdsOk_app.2 ⟨(rdsOk_app.2 ⟨trivial, P25.rds (P25.of hF0_2 hC0_2)⟩), P105.rds (P105.of hF0_3 hC0_3)⟩)⟩, ?_⟩
   repeat refine mo1E5 ?_
   first | exact trivial | exact rfl
  ·obtain ⟨v44, hv45, H⟩ := call_st H
   refine ⟨(((a0.1.1, a0.1.2.1, a0.1.2.2.1, a0.1.2.2.2), a0.2.1, a0.2.2.1, false, false, a0.2.2.2.2.2.1, a0.2.2.2.2.2.2), v44, (X0_2, X0_3)), ⟨hv45, hE0_2, P25.cap (P25.of hF0_2 hC0_2), hE0_3, P105.cap (P105.of hF0_3 hC0_3)⟩, ⟨(rdsOk_app.2 ⟨(rdsOk_app.2 ⟨trivial, P25.rds (P25.of hF0_2 hC0_2)⟩), P105.rds (P105.of hF0_3 hC0_3)⟩)⟩, ?_⟩
   refine And.intro ⟨rfl⟩ ?_
   iterate 11 refine mo1E5 ?_
   intro q46 g47 hq48 hok49 hrd50
   obtain ⟨X53, X57⟩ := g47
   obtain ⟨hE54, hC51, hE58, hC55⟩ := hok49
   obtain ⟨hrd50, hF56⟩ := rdsOk_app.1 hrd50
   obtain ⟨hrd50, hF52⟩ := rdsOk_app.1 hrd50
   try dsimp only at hC51 hF52 hE54 hC55 hF56 hE58
   obtain ⟨v59, hv60, H⟩ := call_st H
   refine ⟨((v44.1.1, v44.1.2.1, v44.1.2.2.1, v44.1.2.2.2), a2, v1, v59), ⟨hv60⟩, ⟨trivial⟩, ?_⟩
   iterate 3 refine And.intro ⟨rfl⟩ ?_
   iterate 4 refine mo1E5 ?_
   intro q61 g62 hq63 hok64 hrd65
   obtain ⟨A66, c67⟩ := g62
   have hc68 := hok64
   obtain ⟨hR69, _⟩ := hrd65
   try dsimp only at hc68 hR69
   obtain ⟨v70, hv71, H⟩ := call_st H
   refine ⟨((v59.2.1, v59.2.2.1, v59.2.2.2.1, v59.2.2.2.2), a2, v70), ⟨hv71⟩, ⟨trivial⟩, ?_⟩
   iterate 2 refine And.intro ⟨rfl⟩ ?_
   iterate 4 refine mo1E5 ?_
   refine And.intro ⟨by kernel_rfl⟩ ?_
   refine ⟨(Pn.calm 0 (Pn.calm 1 (Pn.calm 2 (Pn.calm 3 (Pn.calm 4 (Pn.calm 5 (Pn.calm 6 (Pn.calm 7 (Pn.calm 8 (Pn.calm 9 (Pn.calm 10 (Pn.eff 11 [3, 10, 2, 9, 1, 7, 8, 0, 6, 5, 4] Pn.done Pn.no)))))))))))), ⟨by kernel_rfl⟩, ?_⟩
   refine ob_ck H fun h72 H => ?_
   have hel73 : e25 (X53.getD a1.toNat default) = v44.2.1.getD a1.toNat default := er_get hE54 (by first | exact tn h72 | (have := tn h72; simp at this ⊢; omega) | (have := tn h72; simp; omega))
   have hr74 : (X53.getD a1.toNat default).2 = (v44.2.1.getD a1.toNat default) := congrArg (fun z => z) hel73
   obtain ⟨A75, c76, hA77⟩ : ∃ A c, (A = (X53.getD a1.toNat default).1.1 ∧ c = (X53.getD a1.toNat default).1.2) := ⟨_, _, rfl, rfl⟩
   have hR78 := rd_eq (f := es) hr74 ((fun p hp => P25.mono hq63 ((P25.of hF52 hC51) p hp)) _ (getD_mem (Nat.lt_of_lt_of_eq (by first | exact tn h72 | (have := tn h72; simp at this ⊢; omega) | (have := tn h72; simp; omega)) (er_len hE54).symm))).1
   rw [← hA77.1] at hR78
   have hc79 : (v44.2.1.getD a1.toNat default).length ≤ c76 := by rw [hA77.2]; exact Nat.le_trans (Nat.le_of_eq (congrArg List.length hr74.symm)) ((fun p hp => P25.mono hq63 ((P25.of hF52 hC51) p hp)) _ (getD_mem (Nat.lt_of_lt_of_eq (by first | exact tn h72 | (have := tn h72; simp at this ⊢; omega) | (have := tn h72; simp; omega)) (er_len hE54).symm))).2
   refine ld_sl (A := A75) (n := (v44.2.1.getD a1.toNat default).length) (c := c76) (by rw [hA77.1, hA77.2]; exact (own_get (ys := ec c25 X53) (by first | rfl | simp [ei, eb, es, ec, c25, c105, c135]) ((ec_get1 (i := a1.toNat) c25_len (Nat.lt_of_lt_of_eq (by first | exact tn h72 | (have := tn h72; simp at this ⊢; omega) | (have := tn h72; simp; omega)) (er_len hE54).symm)).trans rfl)).trans (congrArg (fun z => some (Value.slice (X53.getD a1.toNat default).1.1 z (X53.getD a1.toNat default).1.2)) (congrArg List.length hr74))) ?_
   refine And.intro ?_ trivial
   obtain ⟨v80, hv81, H⟩ := call_st H
   refine ⟨((v70.2.1, v70.2.2.1, v70.2.2.2.1, v70.2.2.2.2), (v44.2.1.getD a1.toNat default), v80), ⟨hv81⟩, ⟨trivial⟩, ?_⟩
   refine And.intro ⟨rfl⟩ ?_
   refine And.intro ⟨rfl, hc79, es_len.trans ((show _ = _ from rfl).trans (Nat.mul_one _).symm), hR78⟩ ?_
   iterate 4 refine mo1E5 ?_
   refine And.intro ⟨fun _ _ _ h => h⟩ ?_
   have hfin := fin_st H
   subst hfin
   refine ⟨(X53, X57), ⟨⟨hE54, P25.cap (fun p hp => P25.mono hq63 ((P25.of hF52 hC51) p hp)), hE58, P105.cap (fun p hp => P105.mono hq63 ((P105.of hF56 hC55) p hp))⟩⟩, ⟨(rdsOk_app.2 ⟨(rdsOk_app.2 ⟨trivial, P25.rds (fun p hp => P25.mono hq63 ((P25.of hF52 hC51) p hp))⟩), P105.rds (fun p hp => P105.mono hq63 ((P105.of hF56 hC55) p hp))⟩)⟩, ?_⟩
   repeat refine mo1E5 ?_
   first | exact trivial | exact rfl
noncomputable def g77 (a0 : ((Int × List ByteArray × Int × Int) × List (List ByteArray) × List ((List ByteArray) × Int) × Bool × Bool × Int × Int)) : Option (Bool × ((Int × List ByteArray × Int × Int) × List (List ByteArray) × List ((List ByteArray) × Int) × Bool × Bool × Int × Int)) :=
 if ((a0.2.2.1.length : Nat) : Int) = 0 then
  some (false, ((a0.1.1, a0.1.2.1, a0.1.2.2.1, a0.1.2.2.2), a0.2.1, a0.2.2.1, false, false, a0.2.2.2.2.2.1, a0.2.2.2.2.2.2))
 else
  (
   ck (inR .i64 (((a0.2.2.1.length : Nat) : Int) - 1)) <|
   ck (0 ≤ ((a0.2.2.1.length : Nat) : Int) - 1 ∧ ((a0.2.2.1.length : Nat) : Int) - 1 < ((a0.2.2.1.length : Nat) : Int)) <|
   ck (inR .i64 (((a0.2.2.1.length : Nat) : Int) - 1)) <|
   ck (0 ≤ (0 : Int) ∧ (0 : Int) ≤ ((a0.2.2.1.length : Nat) : Int) - 1 ∧ ((a0.2.2.1.length : Nat) : Int) - 1 ≤ ((a0.2.2.1.length : Nat) : Int)) <|
   (g80 ((a0.1.1, a0.1.2.1, a0.1.2.2.1, a0.1.2.2.2), a0.2.1, (a0.2.2.1.take ((((a0.2.2.1.length : Nat) : Int) - 1).toNat - (0 : Int).toNat)), false, false, a0.2.2.2.2.2.1, a0.2.2.2.2.2.2) ((a0.2.2.1.getD (((a0.2.2.1.length : Nat) : Int) - 1).toNat default).1) ((a0.2.2.1.getD (((a0.2.2.1.length : Nat) : Int) - 1).toNat default).2)).bind fun v106 =>
   some (true, ((v106.1.1, v106.1.2.1, v106.1.2.2.1, v106.1.2.2.2), v106.2.1, v106.2.2.1, v106.2.2.2.1, v106.2.2.2.2.1, v106.2.2.2.2.2.1, v106.2.2.2.2.2.2))
  )
noncomputable def k77 : Eng.CS := { f := 77, calm := false, more := 8, ι := ((Int × List ByteArray × Int × Int) × List (List ByteArray) × List ((List ByteArray) × Int) × Bool × Bool × Int × Int) × (Bool × ((Int × List ByteArray × Int × Int) × List (List ByteArray) × List ((List ByteArray) × Int) × Bool × Bool × Int × Int)) × (List ((Option Addr × Nat) × List ByteArray) × List (((Option Addr × Nat) × List ByteArray) × Int)), ok := fun i => g77 i.1 = some i.2.1 ∧ i.2.2.1.map e25 = i.1.2.1 ∧ (∀ p ∈ i.2.2.1, cap25 p) ∧ i.2.2.2.map e105 = i.1.2.2.1 ∧ (∀ p ∈ i.2.2.2, cap105 p), rds := fun i => [] ++ (i.2.2.1).flatMap R25 ++ (i.2.2.2).flatMap R105, args := fun i => [.w (.lp 0 0)], res := fun _ => .bad, rn := [(100001, 1, 9, 1), (100000, 1, 25, 1), (100000, 2, 105, 2)], keys := 5, L := fun i => [(0, .cells 73 [.lp 1 0, .own 2, .own 3, bS i.1.2.2.2.1, bS i.1.2.2.2.2.1, .v (.int .i64 (i.1.2.2.2.2.2.1)), .v (.int .i64 (i.1.2.2.2.2.2.2))]), (1, .cells 43 [.v (.int .i64 (i.1.1.1)), .own 4, .v (.int .i64 (i.1.1.2.2.1)), .v (.int .i64 (i.1.1.2.2.2))]), (4, .arr 9 1 i.1.1.2.1.length (es i.1.1.2.1)), (2, .arr 25 1 i.1.2.1.length (ec c25 i.2.2.1)), (3, .arr 105 2 i.1.2.2.1.length (ec c105 i.2.2.2))], gr := true, γ := (List ((Option Addr × Nat) × List ByteArray)) × (List (((Option Addr × Nat) × List ByteArray) × Int)), resG := fun i _ => bS i.2.1.1, LG := fun i g => [(0, .cells 73 [.lp 1 0, .own 5, .own 6, bS i.2.1.2.2.2.2.1, bS i.2.1.2.2.2.2.2.1, .v (.int .i64 (i.2.1.2.2.2.2.2.2.1)), .v (.int .i64 (i.2.1.2.2.2.2.2.2.2))]), (1, .cells 43 [.v (.int .i64 (i.2.1.2.1.1)), .own 7, .v (.int .i64 (i.2.1.2.1.2.2.1)), .v (.int .i64 (i.2.1.2.1.2.2.2))]), (7, .arr 9 1 i.2.1.2.1.2.1.length (es i.2.1.2.1.2.1)), (5, .arr 25 1 i.2.1.2.2.1.length (ec c25 g.1)), (6, .arr 105 2 i.2.1.2.2.2.1.length (ec c105 g.2))], okG := fun i g => g.1.map e25 = i.2.1.2.2.1 ∧ (∀ p ∈ g.1, cap25 p) ∧ g.2.map e105 = i.2.1.2.2.2.1 ∧ (∀ p ∈ g.2, cap105 p), rdsG := fun i g => [] ++ (g.1).flatMap R25 ++ (g.2).flatMap R105, fzr := [] }
set_option maxRecDepth 8000 in
set_option maxHeartbeats 4000000 in
theorem k77_ok : CSOk Try.prog k77 := by
 refine R.cspecG Try.func77 nm77 rfl rfl (fun _ => rfl) ?_
 rintro ⟨a0, r, ⟨X0_2, X0_3⟩⟩ ⟨hok, hE0_2, hC0_2, hE0_3, hC0_3⟩ q hrds args hargs
 obtain ⟨hrds, hF0_3⟩ := rdsOk_app.1 hrds
 obtain ⟨hrds, hF0_2⟩ := rdsOk_app.1 hrds
 dsimp only at hC0_2 hF0_2 hE0_2 hC0_3 hF0_3 hE0_3
 dsimp only [k77] at hargs ⊢
 match args, hargs with
 | [_], hargs =>
 obtain ⟨rfl, _⟩ := hargs
 refine ⟨envC [k80] false [], 6, envC_ok (css_cons ⟨fun h => (by cases h), fun _ => k80_ok⟩ (css_nil)), ?_⟩
 have H : Gives (g77 a0) (fun a => a = r) := ⟨r, hok, rfl⟩
 unfold g77 at H
 clear hok
 refine if_st H (fun h83 H => ?_) (fun h83 H => ?_)
 ·have hfin := fin_st H
  subst hfin
  refine ⟨(X0_2, X0_3), ⟨⟨hE0_2, P25.cap (P25.of hF0_2 hC0_2), hE0_3, P105.cap (P105.of hF0_3 hC0_3)⟩⟩, ⟨(rdsOk_app.2 ⟨(rdsOk_app.2 ⟨trivial, P25.rds (P25.of hF0_2 hC0_2)⟩), P105.rds (P105.of hF0_3 hC0_3)⟩)⟩, ?_⟩
  repeat refine mo1E5 ?_
  first | exact trivial | exact rfl
 ·refine ob_ck H fun h84 H => ?_
  refine ob_ck H fun h85 H => ?_
  have hel86 : e105 (X0_3.getD (((a0.2.2.1.length : Nat) : Int) - 1).toNat default) = a0.2.2.1.getD (((a0.2.2.1.length : Nat) : Int) - 1).toNat default := er_get hE0_3 (by first | exact tn h85 | (have := tn h85; simp at this ⊢; omega) | (have := tn h85; simp; omega))
  have hr87 : (X0_3.getD (((a0.2.2.1.length : Nat) : Int) - 1).toNat default).1.2 = (a0.2.2.1.getD (((a0.2.2.1.length : Nat) : Int) - 1).toNat default).1 := congrArg (fun z => z.1) hel86
  obtain ⟨A88, c89, hA90⟩ : ∃ A c, (A = (X0_3.getD (((a0.2.2.1.length : Nat) : Int) - 1).toNat default).1.1.1 ∧ c = (X0_3.getD (((a0.2.2.1.length : Nat) : Int) - 1).toNat default).1.1.2) := ⟨_, _, rfl, rfl⟩
  have hR91 := rd_eq (f := es) hr87 ((P105.of hF0_3 hC0_3) _ (getD_mem (Nat.lt_of_lt_of_eq (by first | exact tn h85 | (have := tn h85; simp at this ⊢; omega) | (have := tn h85; simp; omega)) (er_len hE0_3).symm))).1
  rw [← hA90.1] at hR91
  have hc92 : ((a0.2.2.1.getD (((a0.2.2.1.length : Nat) : Int) - 1).toNat default).1).length ≤ c89 := by rw [hA90.2]; exact Nat.le_trans (Nat.le_of_eq (congrArg List.length hr87.symm)) ((P105.of hF0_3 hC0_3) _ (getD_mem (Nat.lt_of_lt_of_eq (by first | exact tn h85 | (have := tn h85; simp at this ⊢; omega) | (have := tn h85; simp; omega)) (er_len hE0_3).symm))).2
  refine ld_sl (A := A88) (n := ((a0.2.2.1.getD (((a0.2.2.1.length : Nat) : Int) - 1).toNat default).1).length) (c := c89) (by rw [hA90.1, hA90.2]; exact (own_get (ys := ec c105 X0_3) (by first | rfl | simp [ei, eb, es, ec, c25, c105, c135]) ((ec_get (i := (((a0.2.2.1.length : Nat) : Int) - 1).toNat) (o := 0) c105_len (Nat.lt_of_lt_of_eq (by first | exact tn h85 | (have := tn h85; simp at this ⊢; omega) | (have := tn h85; simp; omega)) (er_len hE0_3).symm) (by decide)).trans rfl)).trans (congrArg (fun z => some (Value.slice (X0_3.getD (((a0.2.2.1.length : Nat) : Int) - 1).toNat default).1.1.1 z (X0_3.getD (((a0.2.2.1.length : Nat) : Int) - 1).toNat default).1.1.2)) (congrArg List.length hr87))) ?_
  have hr93 : (X0_3.getD (((a0.2.2.1.length : Nat) : Int) - 1).toNat default).2 = (a0.2.2.1.getD (((a0.2.2.1.length : Nat) : Int) - 1).toNat default).2 := congrArg (fun z => z.2) hel86
  refine ld_int (e := (a0.2.2.1.getD (((a0.2.2.1.length : Nat) : Int) - 1).toNat default).2) ((own_get (ys := ec c105 X0_3) (by first | rfl | simp [ei, eb, es, ec, c25, c105, c135]) ((ec_get (i := (((a0.2.2.1.length : Nat) : Int) - 1).toNat) (o := 1) c105_len (Nat.lt_of_lt_of_eq (by first | exact tn h85 | (have := tn h85; simp at this ⊢; omega) | (have := tn h85; simp; omega)) (er_len hE0_3).symm) (by decide)).trans rfl)).trans (congrArg (fun z => some (Value.int .i64 z)) hr93)) ?_
  refine ob_ck H fun h94 H => ?_
  refine ob_ck H fun h95 H => ?_
  try dsimp only at h95
  intro n96 hn97
  subst hn97
  refine And.intro ⟨by first | omega | (dsimp only; omega)⟩ ?_
  intro n98 zs100 hn99 hz101
  obtain rfl : n98 = (a0.2.2.1.take ((((a0.2.2.1.length : Nat) : Int) - 1).toNat - (0 : Int).toNat)).length := hn99.trans (by rw [List.length_take]; omega)
  obtain ⟨X102, hE103, hP104, hl105, rfl⟩ := nx (f := e105) (C := c105) (P := P105 _) (zs := zs100) (er_take hE0_3) (pin_take (P105.of hF0_3 hC0_3)) (hz101.trans (ec_take c105_len))
  obtain ⟨v106, hv107, H⟩ := call_st H
  refine ⟨(((a0.1.1, a0.1.2.1, a0.1.2.2.1, a0.1.2.2.2), a0.2.1, (a0.2.2.1.take ((((a0.2.2.1.length : Nat) : Int) - 1).toNat - (0 : Int).toNat)), false, false, a0.2.2.2.2.2.1, a0.2.2.2.2.2.2), (a0.2.2.1.getD (((a0.2.2.1.length : Nat) : Int) - 1).toNat default).1, (a0.2.2.1.getD (((a0.2.2.1.length : Nat) : Int) - 1).toNat default).2, v106, (A88, c89), (X0_2, X102)), ⟨hv107, hc92, hE0_2, P25.cap (P25.of hF0_2 hC0_2), hE103, P105.cap hP104⟩, ⟨(rdsOk_app.2 ⟨(rdsOk_app.2 ⟨⟨hR91, trivial⟩, P25.rds (P25.of hF0_2 hC0_2)⟩), P105.rds hP104⟩)⟩, ?_⟩
  iterate 3 refine And.intro ⟨rfl⟩ ?_
  iterate 11 refine mo1E5 ?_
  intro q108 g109 hq110 hok111 hrd112
  obtain ⟨X115, X119⟩ := g109
  obtain ⟨hE116, hC113, hE120, hC117⟩ := hok111
  obtain ⟨hrd112, hF118⟩ := rdsOk_app.1 hrd112
  obtain ⟨hrd112, hF114⟩ := rdsOk_app.1 hrd112
  try dsimp only at hC113 hF114 hE116 hC117 hF118 hE120
  have hfin := fin_st H
  subst hfin
  refine ⟨(X115, X119), ⟨⟨hE116, P25.cap (P25.of hF114 hC113), hE120, P105.cap (P105.of hF118 hC117)⟩⟩, ⟨(rdsOk_app.2 ⟨(rdsOk_app.2 ⟨trivial, P25.rds (P25.of hF114 hC113)⟩), P105.rds (P105.of hF118 hC117)⟩)⟩, ?_⟩
  repeat refine mo1E5 ?_
  first | exact trivial | exact rfl
noncomputable def g78 (a0 : ((Int × List ByteArray × Int × Int) × List (List ByteArray) × List ((List ByteArray) × Int) × Bool × Bool × Int × Int)) : Option (Bool × ((Int × List ByteArray × Int × Int) × List (List ByteArray) × List ((List ByteArray) × Int) × Bool × Bool × Int × Int)) :=
 (g13 (a0.1.1, a0.1.2.1, a0.1.2.2.1, a0.1.2.2.2)).bind fun v121 =>
 (g20 (a0.1.1, a0.1.2.1, a0.1.2.2.1, a0.1.2.2.2)).bind fun v123 =>
 if v121 = 0 then
  some (false, ((a0.1.1, a0.1.2.1, a0.1.2.2.1, a0.1.2.2.2), a0.2.1, a0.2.2.1, false, false, a0.2.2.2.2.2.1, a0.2.2.2.2.2.2))
 else
  (
   if v123 < 2 then
    some (false, ((a0.1.1, a0.1.2.1, a0.1.2.2.1, a0.1.2.2.2), a0.2.1, a0.2.2.1, false, false, a0.2.2.2.2.2.1, a0.2.2.2.2.2.2))
   else
    (
     ck (inR .i64 (v123 - 1)) <|
     (g69 ((a0.1.1, a0.1.2.1, a0.1.2.2.1, a0.1.2.2.2), a0.2.1, a0.2.2.1, false, false, a0.2.2.2.2.2.1, a0.2.2.2.2.2.2)).bind fun v131 =>
     ck (inR .i64 ((gmin v121 (v123 - 1)) - 1)) <|
     ck (inR .i64 ((gmin v121 (v123 - 1)) + 1)) <|
     (g19 (v131.1.1, v131.1.2.1, v131.1.2.2.1, v131.1.2.2.2) ((gmin v121 (v123 - 1)) - 1) ((gmin v121 (v123 - 1)) + 1)).bind fun v148 =>
     ck (inR .i64 ((gmin v121 (v123 - 1)) - 1)) <|
     (g12 (v148.2.1, v148.2.2.1, v148.2.2.2.1, v148.2.2.2.2) ((gmin v121 (v123 - 1)) - 1)).bind fun v160 =>
     ck (0 ≤ (1 : Int) ∧ 1 < ((v148.1.length : Nat) : Int)) <|
     ck (0 ≤ (0 : Int) ∧ 0 < ((v148.1.length : Nat) : Int)) <|
     (g21 (v160.2.1, v160.2.2.1, v160.2.2.2.1, v160.2.2.2.2) ([v148.1.getD (1 : Int).toNat default, v148.1.getD (0 : Int).toNat default])).bind fun v164 =>
     some (true, ((v164.2.1, v164.2.2.1, v164.2.2.2.1, v164.2.2.2.2), v131.2.1, v131.2.2.1, v131.2.2.2.1, v131.2.2.2.2.1, v131.2.2.2.2.2.1, v131.2.2.2.2.2.2))
    )
  )
noncomputable def k78 : Eng.CS := { f := 78, calm := false, more := 8, ι := ((Int × List ByteArray × Int × Int) × List (List ByteArray) × List ((List ByteArray) × Int) × Bool × Bool × Int × Int) × (Bool × ((Int × List ByteArray × Int × Int) × List (List ByteArray) × List ((List ByteArray) × Int) × Bool × Bool × Int × Int)) × (List ((Option Addr × Nat) × List ByteArray) × List (((Option Addr × Nat) × List ByteArray) × Int)), ok := fun i => g78 i.1 = some i.2.1 ∧ i.2.2.1.map e25 = i.1.2.1 ∧ (∀ p ∈ i.2.2.1, cap25 p) ∧ i.2.2.2.map e105 = i.1.2.2.1 ∧ (∀ p ∈ i.2.2.2, cap105 p), rds := fun i => [] ++ (i.2.2.1).flatMap R25 ++ (i.2.2.2).flatMap R105, args := fun i => [.w (.lp 0 0)], res := fun _ => .bad, rn := [(100001, 1, 9, 1), (100000, 1, 25, 1), (100000, 2, 105, 2)], keys := 5, L := fun i => [(0, .cells 73 [.lp 1 0, .own 2, .own 3, bS i.1.2.2.2.1, bS i.1.2.2.2.2.1, .v (.int .i64 (i.1.2.2.2.2.2.1)), .v (.int .i64 (i.1.2.2.2.2.2.2))]), (1, .cells 43 [.v (.int .i64 (i.1.1.1)), .own 4, .v (.int .i64 (i.1.1.2.2.1)), .v (.int .i64 (i.1.1.2.2.2))]), (4, .arr 9 1 i.1.1.2.1.length (es i.1.1.2.1)), (2, .arr 25 1 i.1.2.1.length (ec c25 i.2.2.1)), (3, .arr 105 2 i.1.2.2.1.length (ec c105 i.2.2.2))], gr := true, γ := (List ((Option Addr × Nat) × List ByteArray)) × (List (((Option Addr × Nat) × List ByteArray) × Int)), resG := fun i _ => bS i.2.1.1, LG := fun i g => [(0, .cells 73 [.lp 1 0, .own 5, .own 6, bS i.2.1.2.2.2.2.1, bS i.2.1.2.2.2.2.2.1, .v (.int .i64 (i.2.1.2.2.2.2.2.2.1)), .v (.int .i64 (i.2.1.2.2.2.2.2.2.2))]), (1, .cells 43 [.v (.int .i64 (i.2.1.2.1.1)), .own 7, .v (.int .i64 (i.2.1.2.1.2.2.1)), .v (.int .i64 (i.2.1.2.1.2.2.2))]), (7, .arr 9 1 i.2.1.2.1.2.1.length (es i.2.1.2.1.2.1)), (5, .arr 25 1 i.2.1.2.2.1.length (ec c25 g.1)), (6, .arr 105 2 i.2.1.2.2.2.1.length (ec c105 g.2))], okG := fun i g => g.1.map e25 = i.2.1.2.2.1 ∧ (∀ p ∈ g.1, cap25 p) ∧ g.2.map e105 = i.2.1.2.2.2.1 ∧ (∀ p ∈ g.2, cap105 p), rdsG := fun i g => [] ++ (g.1).flatMap R25 ++ (g.2).flatMap R105, fzr := [] }
set_option maxRecDepth 8000 in
set_option maxHeartbeats 4000000 in
theorem k78_ok : CSOk Try.prog k78 := by
 refine R.cspecG Try.func78 nm78 rfl rfl (fun _ => rfl) ?_
 rintro ⟨a0, r, ⟨X0_2, X0_3⟩⟩ ⟨hok, hE0_2, hC0_2, hE0_3, hC0_3⟩ q hrds args hargs
 obtain ⟨hrds, hF0_3⟩ := rdsOk_app.1 hrds
 obtain ⟨hrds, hF0_2⟩ := rdsOk_app.1 hrds
 dsimp only at hC0_2 hF0_2 hE0_2 hC0_3 hF0_3 hE0_3
 dsimp only [k78] at hargs ⊢
 match args, hargs with
 | [_], hargs =>
 obtain ⟨rfl, _⟩ := hargs
 refine ⟨envC [k12, k13, k19, k20, k21, k69] false [], 6, envC_ok (css_cons ⟨fun h => (by cases h), fun _ => k12_ok⟩ (css_cons ⟨fun _ => k13_ok, fun h => (by cases h)⟩ (css_cons ⟨fun h => (by cases h), fun _ => k19_ok⟩ (css_cons ⟨fun _ => k20_ok, fun h => (by cases h)⟩ (css_cons ⟨fun h => (by cases h), fun _ => k21_ok⟩ (css_cons ⟨fun h => (by cases h), fun _ => k69_ok⟩ (css_nil))))))), ?_⟩
 have H : Gives (g78 a0) (fun a => a = r) := ⟨r, hok, rfl⟩
 unfold g78 at H
 clear hok
 refine And.intro ⟨by kernel_rfl⟩ ?_
 obtain ⟨v121, hv122, H⟩ := call_st H
 refine ⟨((a0.1.1, a0.1.2.1, a0.1.2.2.1, a0.1.2.2.2), v121), ⟨hv122⟩, ⟨trivial⟩, ?_⟩
 iterate 4 refine mo1E5 ?_
 obtain ⟨v123, hv124, H⟩ := call_st H
 refine ⟨((a0.1.1, a0.1.2.1, a0.1.2.2.1, a0.1.2.2.2), v123), ⟨hv124⟩, ⟨trivial⟩, ?_⟩
 iterate 4 refine mo1E5 ?_
 refine if_st H (fun h128 H => ?_) (fun h128 H => ?_)
 ·have hfin := fin_st H
  subst hfin
  refine ⟨(X0_2, X0_3), ⟨⟨hE0_2, P25.cap (P25.of hF0_2 hC0_2), hE0_3, P105.cap (P105.of hF0_3 hC0_3)⟩⟩, ⟨(rdsOk_app.2 ⟨(rdsOk_app.2 ⟨trivial, P25.rds (P25.of hF0_2 hC0_2)⟩), P105.rds (P105.of hF0_3 hC0_3)⟩)⟩, ?_⟩
  repeat refine mo1E5 ?_
  first | exact trivial | exact rfl
 ·refine if_st H (fun h129 H => ?_) (fun h129 H => ?_)
  ·have hfin := fin_st H
   subst hfin
   refine ⟨(X0_2, X0_3), ⟨⟨hE0_2, P25.cap (P25.of hF0_2 hC0_2), hE0_3, P105.cap (P105.of hF0_3 hC0_3)⟩⟩, ⟨(rdsOk_app.2 ⟨(rdsOk_app.2 ⟨trivial, P25.rds (P25.of hF0_2 hC0_2)⟩), P105.rds (P105.of hF0_3 hC0_3)⟩)⟩, ?_⟩
   repeat refine mo1E5 ?_
   first | exact trivial | exact rfl
  ·refine ob_ck H fun h130 H => ?_
   obtain ⟨v131, hv132, H⟩ := call_st H
   refine ⟨(((a0.1.1, a0.1.2.1, a0.1.2.2.1, a0.1.2.2.2), a0.2.1, a0.2.2.1, false, false, a0.2.2.2.2.2.1, a0.2.2.2.2.2.2), v131, (X0_2, X0_3)), ⟨hv132, hE0_2, P25.cap (P25.of hF0_2 hC0_2), hE0_3, P105.cap (P105.of hF0_3 hC0_3)⟩, ⟨(rdsOk_app.2 ⟨(rdsOk_app.2 ⟨trivial, P25.rds (P25.of hF0_2 hC0_2)⟩), P105.rds (P105.of hF0_3 hC0_3)⟩)⟩, ?_⟩
   refine And.intro ⟨rfl⟩ ?_
   iterate 11 refine mo1E5 ?_
   intro q133 g134 hq135 hok136 hrd137
   obtain ⟨X140, X144⟩ := g134
   obtain ⟨hE141, hC138, hE145, hC142⟩ := hok136
   obtain ⟨hrd137, hF143⟩ := rdsOk_app.1 hrd137
   obtain ⟨hrd137, hF139⟩ := rdsOk_app.1 hrd137
   try dsimp only at hC138 hF139 hE141 hC142 hF143 hE145
   refine ob_ck H fun h146 H => ?_
   refine ob_ck H fun h147 H => ?_
   obtain ⟨v148, hv149, H⟩ := call_st H
   refine ⟨((v131.1.1, v131.1.2.1, v131.1.2.2.1, v131.1.2.2.2), (gmin v121 (v123 - 1)) - 1, (gmin v121 (v123 - 1)) + 1, v148), ⟨hv149⟩, ⟨trivial⟩, ?_⟩
   iterate 3 refine And.intro ⟨rfl⟩ ?_
   iterate 4 refine mo1E5 ?_
   intro q150 g151 hq152 hok153 hrd154
   obtain ⟨A155, c156⟩ := g151
   have hc157 := hok153
   obtain ⟨hR158, _⟩ := hrd154
   try dsimp only at hc157 hR158
   refine ob_ck H fun h159 H => ?_
   obtain ⟨v160, hv161, H⟩ := call_st H
   refine ⟨((v148.2.1, v148.2.2.1, v148.2.2.2.1, v148.2.2.2.2), (gmin v121 (v123 - 1)) - 1, v160), ⟨hv161⟩, ⟨trivial⟩, ?_⟩
   iterate 2 refine And.intro ⟨rfl⟩ ?_
   iterate 4 refine mo1E5 ?_
   refine And.intro ⟨by kernel_rfl⟩ ?_
   refine ⟨(Pn.calm 0 (Pn.calm 1 (Pn.calm 2 (Pn.calm 3 (Pn.calm 4 (Pn.calm 5 (Pn.calm 6 (Pn.calm 7 (Pn.calm 8 (Pn.calm 9 (Pn.eff 10 [6, 9, 5, 8, 4, 7] (Pn.eff 11 [3, 10, 2, 6, 9, 1, 5, 8, 0, 4, 7] Pn.done Pn.no) Pn.no))))))))))), ⟨by kernel_rfl⟩, ?_⟩
   refine ob_ix hR158 (fun h => es0 h) H fun h162 H => ?_
   refine ld_str (e := v148.1.getD (1 : Int).toNat default) (rd_get hR158 (es_get (l := v148.1) (tn h162))) ?_
   refine ob_ix hR158 (fun h => es0 h) H fun h163 H => ?_
   refine ld_str (e := v148.1.getD (0 : Int).toNat default) (rd_get hR158 (es_get (l := v148.1) (tn h163))) ?_
   refine And.intro ?_ trivial
   refine And.intro ⟨fun _ _ _ h => h⟩ ?_
   refine And.intro ?_ trivial
   obtain ⟨v164, hv165, H⟩ := call_st H
   refine ⟨((v160.2.1, v160.2.2.1, v160.2.2.2.1, v160.2.2.2.2), [v148.1.getD (1 : Int).toNat default, v148.1.getD (0 : Int).toNat default], v164), ⟨hv165⟩, ⟨trivial⟩, ?_⟩
   refine And.intro ⟨rfl⟩ ?_
   refine And.intro ⟨by first | rfl | (simp; done), by first | rfl | (simp [ei, eb, es, ec, c25, c105, c135]; done) | (simp only [ei, eb, es, ec, c25, c105, c135, List.map_append, List.nil_append, List.append_assoc]; rfl)⟩ ?_
   iterate 4 refine mo1E5 ?_
   refine And.intro ⟨fun _ _ _ h => h⟩ ?_
   have hfin := fin_st H
   subst hfin
   refine ⟨(X140, X144), ⟨⟨hE141, P25.cap (fun p hp => P25.mono hq152 ((P25.of hF139 hC138) p hp)), hE145, P105.cap (fun p hp => P105.mono hq152 ((P105.of hF143 hC142) p hp))⟩⟩, ⟨(rdsOk_app.2 ⟨(rdsOk_app.2 ⟨trivial, P25.rds (fun p hp => P25.mono hq152 ((P25.of hF139 hC138) p hp))⟩), P105.rds (fun p hp => P105.mono hq152 ((P105.of hF143 hC142) p hp))⟩)⟩, ?_⟩
   repeat refine mo1E5 ?_
   first | exact trivial | exact rfl
noncomputable def g74 (a0 : ((Int × List ByteArray × Int × Int) × List (List ByteArray) × List ((List ByteArray) × Int) × Bool × Bool × Int × Int)) (a1 : Int) (a2 : Int) (a3 : Bool) : Option (Bool × ((Int × List ByteArray × Int × Int) × List (List ByteArray) × List ((List ByteArray) × Int) × Bool × Bool × Int × Int)) :=
 jn (α := _) (β := Bool) (fun k169 =>
   if a0.2.2.2.1 = true then
    k169 (decide (0 < ((a0.2.1.length : Nat) : Int)))
   else
    k169 false
 ) (fun v168 =>
  (g11 (a0.1.1, a0.1.2.1, a0.1.2.2.1, a0.1.2.2.2)).bind fun v171 =>
  (g73 ((a0.1.1, a0.1.2.1, a0.1.2.2.1, a0.1.2.2.2), a0.2.1, a0.2.2.1, a0.2.2.2.1, a0.2.2.2.2.1, a0.2.2.2.2.2.1, a0.2.2.2.2.2.2) a1 a2).bind fun v189 =>
  if ¬ (v189.1 = true) then
   some (false, ((v189.2.1.1, v189.2.1.2.1, v189.2.1.2.2.1, v189.2.1.2.2.2), v189.2.2.1, v189.2.2.2.1, v189.2.2.2.2.1, v189.2.2.2.2.2.1, v189.2.2.2.2.2.2.1, v189.2.2.2.2.2.2.2))
  else
   (
    ck (0 ≤ a1 ∧ a1 ≤ a2 ∧ a2 ≤ ((v171.length : Nat) : Int)) <|
    (g103 ((v171.drop a1.toNat).take (a2.toNat - a1.toNat))).bind fun v208 =>
    jn (α := _) (β := Bool) (fun k306 =>
      if v168 = true then
       k306 a3
      else
       k306 false
    ) (fun v305 =>
     if v305 = true then
      (
       ck (0 ≤ (0 : Int) ∧ 0 < ((v189.2.2.1.length : Nat) : Int)) <|
       ck ((((v171.drop a1.toNat).take (a2.toNat - a1.toNat)).length + ((v189.2.2.1.getD (0 : Int).toNat default).length)) * 16 ≤ 140737488355328) <|
       ck (0 ≤ (0 : Int) ∧ 0 < ((v189.2.2.1.length : Nat) : Int)) <|
       some (true, ((v189.2.1.1, v189.2.1.2.1, v189.2.1.2.2.1, v189.2.1.2.2.2), (v189.2.2.1.set (0 : Int).toNat (((v171.drop a1.toNat).take (a2.toNat - a1.toNat)) ++ (v189.2.2.1.getD (0 : Int).toNat default))), v189.2.2.2.1, true, v189.2.2.2.2.2.1, v189.2.2.2.2.2.2.1, v189.2.2.2.2.2.2.2))
      )
     else
      (
       if v168 = true then
        (
         ck (0 ≤ (0 : Int) ∧ 0 < ((v189.2.2.1.length : Nat) : Int)) <|
         (g103 (v189.2.2.1.getD (0 : Int).toNat default)).bind fun v347 =>
         ck (((v189.2.2.1.getD (0 : Int).toNat default).length + ((v171.drop a1.toNat).take (a2.toNat - a1.toNat)).length) * 16 ≤ 140737488355328) <|
         ck (0 ≤ (0 : Int) ∧ 0 < ((v189.2.2.1.length : Nat) : Int)) <|
         some (true, ((v189.2.1.1, v189.2.1.2.1, v189.2.1.2.2.1, v189.2.1.2.2.2), (v189.2.2.1.set (0 : Int).toNat ((v189.2.2.1.getD (0 : Int).toNat default) ++ ((v171.drop a1.toNat).take (a2.toNat - a1.toNat)))), v189.2.2.2.1, true, v189.2.2.2.2.2.1, v189.2.2.2.2.2.2.1, v189.2.2.2.2.2.2.2))
        )
       else
        (
         ck ((1 + v189.2.2.1.length) * 24 ≤ 140737488355328) <|
         if 16 < (((([((v171.drop a1.toNat).take (a2.toNat - a1.toNat))] : List (List ByteArray)) ++ v189.2.2.1).length : Nat) : Int) then
          (
           ck (0 ≤ (0 : Int) ∧ (0 : Int) ≤ (16 : Int) ∧ (16 : Int) ≤ (((([((v171.drop a1.toNat).take (a2.toNat - a1.toNat))] : List (List ByteArray)) ++ v189.2.2.1).length : Nat) : Int)) <|
           some (true, ((v189.2.1.1, v189.2.1.2.1, v189.2.1.2.2.1, v189.2.1.2.2.2), ((([((v171.drop a1.toNat).take (a2.toNat - a1.toNat))] : List (List ByteArray)) ++ v189.2.2.1).take ((16 : Int).toNat - (0 : Int).toNat)), v189.2.2.2.1, true, v189.2.2.2.2.2.1, v189.2.2.2.2.2.2.1, v189.2.2.2.2.2.2.2))
          )
         else
          some (true, ((v189.2.1.1, v189.2.1.2.1, v189.2.1.2.2.1, v189.2.1.2.2.2), (([((v171.drop a1.toNat).take (a2.toNat - a1.toNat))] : List (List ByteArray)) ++ v189.2.2.1), v189.2.2.2.1, true, v189.2.2.2.2.2.1, v189.2.2.2.2.2.2.1, v189.2.2.2.2.2.2.2))
        )
      )
    )
   )
 )
noncomputable def k74 : Eng.CS := { f := 74, calm := false, more := 8, ι := ((Int × List ByteArray × Int × Int) × List (List ByteArray) × List ((List ByteArray) × Int) × Bool × Bool × Int × Int) × Int × Int × Bool × (Bool × ((Int × List ByteArray × Int × Int) × List (List ByteArray) × List ((List ByteArray) × Int) × Bool × Bool × Int × Int)) × (List ((Option Addr × Nat) × List ByteArray) × List (((Option Addr × Nat) × List ByteArray) × Int)), ok := fun i => g74 i.1 i.2.1 i.2.2.1 i.2.2.2.1 = some i.2.2.2.2.1 ∧ i.2.2.2.2.2.1.map e25 = i.1.2.1 ∧ (∀ p ∈ i.2.2.2.2.2.1, cap25 p) ∧ i.2.2.2.2.2.2.map e105 = i.1.2.2.1 ∧ (∀ p ∈ i.2.2.2.2.2.2, cap105 p), rds := fun i => [] ++ (i.2.2.2.2.2.1).flatMap R25 ++ (i.2.2.2.2.2.2).flatMap R105, args := fun i => [.w (.lp 0 0), .w (.v (.int .i64 (i.2.1))), .w (.v (.int .i64 (i.2.2.1))), .w (bS i.2.2.2.1)], res := fun _ => .bad, rn := [(100001, 1, 9, 1), (100000, 1, 25, 1), (100000, 2, 105, 2)], keys := 5, L := fun i => [(0, .cells 73 [.lp 1 0, .own 2, .own 3, bS i.1.2.2.2.1, bS i.1.2.2.2.2.1, .v (.int .i64 (i.1.2.2.2.2.2.1)), .v (.int .i64 (i.1.2.2.2.2.2.2))]), (1, .cells 43 [.v (.int .i64 (i.1.1.1)), .own 4, .v (.int .i64 (i.1.1.2.2.1)), .v (.int .i64 (i.1.1.2.2.2))]), (4, .arr 9 1 i.1.1.2.1.length (es i.1.1.2.1)), (2, .arr 25 1 i.1.2.1.length (ec c25 i.2.2.2.2.2.1)), (3, .arr 105 2 i.1.2.2.1.length (ec c105 i.2.2.2.2.2.2))], gr := true, γ := (List ((Option Addr × Nat) × List ByteArray)) × (List (((Option Addr × Nat) × List ByteArray) × Int)), resG := fun i _ => bS i.2.2.2.2.1.1, LG := fun i g => [(0, .cells 73 [.lp 1 0, .own 5, .own 6, bS i.2.2.2.2.1.2.2.2.2.1, bS i.2.2.2.2.1.2.2.2.2.2.1, .v (.int .i64 (i.2.2.2.2.1.2.2.2.2.2.2.1)), .v (.int .i64 (i.2.2.2.2.1.2.2.2.2.2.2.2))]), (1, .cells 43 [.v (.int .i64 (i.2.2.2.2.1.2.1.1)), .own 7, .v (.int .i64 (i.2.2.2.2.1.2.1.2.2.1)), .v (.int .i64 (i.2.2.2.2.1.2.1.2.2.2))]), (7, .arr 9 1 i.2.2.2.2.1.2.1.2.1.length (es i.2.2.2.2.1.2.1.2.1)), (5, .arr 25 1 i.2.2.2.2.1.2.2.1.length (ec c25 g.1)), (6, .arr 105 2 i.2.2.2.2.1.2.2.2.1.length (ec c105 g.2))], okG := fun i g => g.1.map e25 = i.2.2.2.2.1.2.2.1 ∧ (∀ p ∈ g.1, cap25 p) ∧ g.2.map e105 = i.2.2.2.2.1.2.2.2.1 ∧ (∀ p ∈ g.2, cap105 p), rdsG := fun i g => [] ++ (g.1).flatMap R25 ++ (g.2).flatMap R105, fzr := [] }
set_option maxRecDepth 8000 in
set_option maxHeartbeats 4000000 in
theorem k74_ok : CSOk Try.prog k74 := by
 refine R.cspecG Try.func74 nm74 rfl rfl (fun _ => rfl) ?_
 rintro ⟨a0, a1, a2, a3, r, ⟨X0_2, X0_3⟩⟩ ⟨hok, hE0_2, hC0_2, hE0_3, hC0_3⟩ q hrds args hargs
 obtain ⟨hrds, hF0_3⟩ := rdsOk_app.1 hrds
 obtain ⟨hrds, hF0_2⟩ := rdsOk_app.1 hrds
 dsimp only at hC0_2 hF0_2 hE0_2 hC0_3 hF0_3 hE0_3
 dsimp only [k74] at hargs ⊢
 match args, hargs with
 | [_, _, _, _], hargs =>
 obtain ⟨rfl, rfl, rfl, rfl, _⟩ := hargs
 refine ⟨envC [k11, k73, k103] false [(74, 2), (74, 11)], 6, envC_ok (css_cons ⟨fun h => (by cases h), fun _ => k11_ok⟩ (css_cons ⟨fun h => (by cases h), fun _ => k73_ok⟩ (css_cons ⟨fun h => (by cases h), fun _ => k103_ok⟩ (css_nil)))), ?_⟩
 have H : Gives (g74 a0 a1 a2 a3) (fun a => a = r) := ⟨r, hok, rfl⟩
 unfold g74 at H
 clear hok
 refine R.cut_fam H 20 [0, 1, 2, 3] [] (fun v168 => [(9, bS v168)]) (fun v168 => []) [(0, .cells 73 [.lp 1 0, .own 2, .own 3, bS a0.2.2.2.1, bS a0.2.2.2.2.1, .v (.int .i64 (a0.2.2.2.2.2.1)), .v (.int .i64 (a0.2.2.2.2.2.2))]), (1, .cells 43 [.v (.int .i64 (a0.1.1)), .own 4, .v (.int .i64 (a0.1.2.2.1)), .v (.int .i64 (a0.1.2.2.2))]), (4, .arr 9 1 (a0.1.2.1.length) (es (a0.1.2.1))), (2, .arr 25 1 (a0.2.1.length) (ec c25 (X0_2))), (3, .arr 105 2 (a0.2.2.1.length) (ec c105 (X0_3)))] 0 (fun H => ?_)
 refine And.intro ?_ ?_
 ·refine if_st H (fun h170 H => ?_) (fun h170 H => ?_)
  ·refine ⟨(decide (0 < ((a0.2.1.length : Nat) : Int))), ⟨H⟩, ⟨rfl⟩, ?_⟩
   repeat refine mo1E5 ?_
   first | exact trivial | exact rfl
  ·refine ⟨false, ⟨H⟩, ⟨rfl⟩, ?_⟩
   repeat refine mo1E5 ?_
   first | exact trivial | exact rfl
 ·intro v168 H
  obtain ⟨v171, hv172, H⟩ := call_st H
  refine ⟨((a0.1.1, a0.1.2.1, a0.1.2.2.1, a0.1.2.2.2), v171), ⟨hv172⟩, ⟨trivial⟩, ?_⟩
  iterate 4 refine mo1E5 ?_
  obtain ⟨v189, hv190, H⟩ := call_st H
  refine ⟨(((a0.1.1, a0.1.2.1, a0.1.2.2.1, a0.1.2.2.2), a0.2.1, a0.2.2.1, a0.2.2.2.1, a0.2.2.2.2.1, a0.2.2.2.2.2.1, a0.2.2.2.2.2.2), a1, a2, v189, (X0_2, X0_3)), ⟨hv190, hE0_2, P25.cap (P25.of hF0_2 hC0_2), hE0_3, P105.cap (P105.of hF0_3 hC0_3)⟩, ⟨(rdsOk_app.2 ⟨(rdsOk_app.2 ⟨trivial, P25.rds (P25.of hF0_2 hC0_2)⟩), P105.rds (P105.of hF0_3 hC0_3)⟩)⟩, ?_⟩
  iterate 3 refine And.intro ⟨rfl⟩ ?_
  iterate 11 refine mo1E5 ?_
  intro q191 g192 hq193 hok194 hrd195
  obtain ⟨X198, X202⟩ := g192
  obtain ⟨hE199, hC196, hE203, hC200⟩ := hok194
  obtain ⟨hrd195, hF201⟩ := rdsOk_app.1 hrd195
  obtain ⟨hrd195, hF197⟩ := rdsOk_app.1 hrd195
  try dsimp only at hC196 hF197 hE199 hC200 hF201 hE203
  refine if_st H (fun h204 H => ?_) (fun h204 H => ?_)
  ·have hfin := fin_st H
   subst hfin
   refine ⟨(X198, X202), ⟨⟨hE199, P25.cap (P25.of hF197 hC196), hE203, P105.cap (P105.of hF201 hC200)⟩⟩, ⟨(rdsOk_app.2 ⟨(rdsOk_app.2 ⟨trivial, P25.rds (P25.of hF197 hC196)⟩), P105.rds (P105.of hF201 hC200)⟩)⟩, ?_⟩
   repeat refine mo1E5 ?_
   first | exact trivial | exact rfl
  ·refine ob_ck H fun h205 H => ?_
   try dsimp only at h205
   intro n206 hn207
   subst hn207
   obtain ⟨v208, hv209, H⟩ := call_st H
   refine ⟨(((v171.drop a1.toNat).take (a2.toNat - a1.toNat)), v208), ⟨hv209⟩, ⟨trivial⟩, ?_⟩
   refine And.intro ⟨(len_vw (by first | omega | (dsimp only; omega))).symm, by first | omega | (dsimp only; omega), es_vw⟩ ?_
   obtain rfl := g103_eq hv209
   refine R.cut_fam H 57 [0, 9, 11] [] (fun v305 => [(66, bS v305)]) (fun v305 => []) [(0, .cells 73 [.lp 1 0, .own 37, .own 38, .bb true, bS v189.2.2.2.2.2.1, .v (.int .i64 (v189.2.2.2.2.2.2.1)), .v (.int .i64 (v189.2.2.2.2.2.2.2))]), (1, .cells 43 [.v (.int .i64 (v189.2.1.1)), .own 39, .v (.int .i64 (v189.2.1.2.2.1)), .v (.int .i64 (v189.2.1.2.2.2))]), (26, .arr 9 1 (v171.length) (es (v171))), (39, .arr 9 1 (v189.2.1.2.1.length) (es (v189.2.1.2.1))), (37, .arr 25 1 (v189.2.2.1.length) (ec c25 (X198))), (38, .arr 105 2 (v189.2.2.2.1.length) (ec c105 (X202))), (46, .arr 9 1 (((v171.drop a1.toNat).take (a2.toNat - a1.toNat)).length) (es (((v171.drop a1.toNat).take (a2.toNat - a1.toNat)))))] 0 (fun H => ?_)
   refine And.intro ?_ ?_
   ·refine if_st H (fun h307 H => ?_) (fun h307 H => ?_)
    ·refine ⟨a3, ⟨H⟩, ⟨rfl⟩, ?_⟩
     repeat refine mo1E5 ?_
     first | exact trivial | exact rfl
    ·refine ⟨false, ⟨H⟩, ⟨rfl⟩, ?_⟩
     repeat refine mo1E5 ?_
     first | exact trivial | exact rfl
   ·intro v305 H
    refine if_st H (fun h308 H => ?_) (fun h308 H => ?_)
    ·refine And.intro ⟨by kernel_rfl⟩ ?_
     refine ⟨(Pn.calm 0 (Pn.calm 1 (Pn.calm 2 (Pn.calm 3 (Pn.calm 4 (Pn.calm 5 (Pn.calm 6 (Pn.calm 7 (Pn.calm 8 (Pn.calm 9 (Pn.calm 10 (Pn.eff 11 [4, 10, 9, 8, 7, 6, 5] (Pn.calm 12 (Pn.eff 13 [12, 11, 0, 1, 2, 3, 4, 5, 6, 7, 8, 9, 10] Pn.done Pn.no)) Pn.no)))))))))))), ⟨by kernel_rfl⟩, ?_⟩
     refine ob_ck H fun h309 H => ?_
     have hel310 : e25 (X198.getD (0 : Int).toNat default) = v189.2.2.1.getD (0 : Int).toNat default := er_get hE199 (by first | exact tn h309 | (have := tn h309; simp at this ⊢; omega) | (have := tn h309; simp; omega))
     have hr311 : (X198.getD (0 : Int).toNat default).2 = (v189.2.2.1.getD (0 : Int).toNat default) := congrArg (fun z => z) hel310
     obtain ⟨A312, c313, hA314⟩ : ∃ A c, (A = (X198.getD (0 : Int).toNat default).1.1 ∧ c = (X198.getD (0 : Int).toNat default).1.2) := ⟨_, _, rfl, rfl⟩
     have hR315 := rd_eq (f := es) hr311 ((P25.of hF197 hC196) _ (getD_mem (Nat.lt_of_lt_of_eq (by first | exact tn h309 | (have := tn h309; simp at this ⊢; omega) | (have := tn h309; simp; omega)) (er_len hE199).symm))).1
     rw [← hA314.1] at hR315
     have hc316 : (v189.2.2.1.getD (0 : Int).toNat default).length ≤ c313 := by rw [hA314.2]; exact Nat.le_trans (Nat.le_of_eq (congrArg List.length hr311.symm)) ((P25.of hF197 hC196) _ (getD_mem (Nat.lt_of_lt_of_eq (by first | exact tn h309 | (have := tn h309; simp at this ⊢; omega) | (have := tn h309; simp; omega)) (er_len hE199).symm))).2
     refine ld_sl (A := A312) (n := (v189.2.2.1.getD (0 : Int).toNat default).length) (c := c313) (by rw [hA314.1, hA314.2]; exact (own_get (ys := ec c25 X198) (by first | rfl | simp [ei, eb, es, ec, c25, c105, c135]) ((ec_get1 (i := (0 : Int).toNat) c25_len (Nat.lt_of_lt_of_eq (by first | exact tn h309 | (have := tn h309; simp at this ⊢; omega) | (have := tn h309; simp; omega)) (er_len hE199).symm)).trans rfl)).trans (congrArg (fun z => some (Value.slice (X198.getD (0 : Int).toNat default).1.1 z (X198.getD (0 : Int).toNat default).1.2)) (congrArg List.length hr311))) ?_
     refine And.intro ?_ trivial
     refine rs_st hR315 (es_len.trans (Nat.mul_one _).symm) ?_
     refine ob_app (by decide) (by first | exact es_one | ((repeat (refine List.forall_mem_cons.2 ⟨rfl, ?_⟩)); intro y hy; cases hy; done) | (intro y hy; simp [ei, eb, es, ec, c25, c105, c135] at hy; (first | (rcases hy with rfl | hy) | subst hy | skip); all_goals first | rfl | simp_all [Value.oneCell'])) H fun h317 H => ?_
     intro n318 zs320 hn319 hz321
     obtain rfl : n318 = (((v171.drop a1.toNat).take (a2.toNat - a1.toNat)) ++ (v189.2.2.1.getD (0 : Int).toNat default)).length := hn319.trans (by first | exact List.length_append.symm | (simp; done) | (simp; omega))
     obtain rfl : zs320 = es (((v171.drop a1.toNat).take (a2.toNat - a1.toNat)) ++ (v189.2.2.1.getD (0 : Int).toNat default)) := by first | exact hz321.trans (es_app (xs := ((v171.drop a1.toNat).take (a2.toNat - a1.toNat))) (ys := (v189.2.2.1.getD (0 : Int).toNat default))).symm | (rw [hz321, es_vw]; first | exact es_app.symm | exact (es_app (xs := ((v171.drop a1.toNat).take (a2.toNat - a1.toNat)))).symm) | (rw [hz321]; simp [ei, eb, es, ec, c25, c105, c135])
     refine And.intro ⟨fun _ _ _ h => h⟩ ?_
     refine ob_ck H fun h322 H => ?_
     refine And.intro ?_ trivial
     intro q323 A324 c325 hq326 hc327 hR328
     replace hR328 : Reads q323 A324 (es (((v171.drop a1.toNat).take (a2.toNat - a1.toNat)) ++ (v189.2.2.1.getD (0 : Int).toNat default))) := Eq.mp (congrArg (Reads q323 A324) (by first | exact rfl | (simp only [ei, eb, es, ec, c25, c105, c135, gmin, gmax, List.map_append, List.flatMap_append, List.nil_append, List.append_nil, List.append_assoc]; done))) hR328
     refine And.intro ⟨by have := tn h322; have hx := er_len hE199; rw [ec_len c25_len]; omega⟩ ?_
     intro n329 zs331 hn330 hz332
     subst hn330
     have hl333 : (v189.2.2.1.set (0 : Int).toNat (((v171.drop a1.toNat).take (a2.toNat - a1.toNat)) ++ (v189.2.2.1.getD (0 : Int).toNat default))).length = v189.2.2.1.length := List.length_set
     obtain ⟨X334, hE335, hP336, hl337, rfl⟩ := nx (f := e25) (C := c25) (P := P25 _) (zs := zs331) (er_set (i := (0 : Int).toNat) (v := ((A324, c325), (((v171.drop a1.toNat).take (a2.toNat - a1.toNat)) ++ (v189.2.2.1.getD (0 : Int).toNat default)))) (u := (((v171.drop a1.toNat).take (a2.toNat - a1.toNat)) ++ (v189.2.2.1.getD (0 : Int).toNat default))) hE199 rfl) (pin_set (fun p hp => P25.mono hq326 ((P25.of hF197 hC196) p hp)) ⟨hR328, hc327⟩) (hz332.trans (ec_set1 (v := ((A324, c325), (((v171.drop a1.toNat).take (a2.toNat - a1.toNat)) ++ (v189.2.2.1.getD (0 : Int).toNat default)))) c25_len rfl))
     refine And.intro ⟨fun _ _ _ h => (hq326 _ _ _ h)⟩ ?_
     have hfin := fin_st H
     subst hfin
     refine ⟨(X334, X202), ⟨⟨hE335, P25.cap hP336, hE203, P105.cap (fun p hp => P105.mono hq326 ((P105.of hF201 hC200) p hp))⟩⟩, ⟨(rdsOk_app.2 ⟨(rdsOk_app.2 ⟨trivial, P25.rds hP336⟩), P105.rds (fun p hp => P105.mono hq326 ((P105.of hF201 hC200) p hp))⟩)⟩, ?_⟩
     repeat refine mo1E5 ?_
     first | exact trivial | exact rfl
    ·refine if_st H (fun h338 H => ?_) (fun h338 H => ?_)
     ·refine And.intro ⟨by kernel_rfl⟩ ?_
      refine ⟨(Pn.calm 0 (Pn.calm 1 (Pn.calm 2 (Pn.calm 3 (Pn.calm 4 (Pn.calm 5 (Pn.calm 6 (Pn.calm 7 (Pn.calm 8 (Pn.calm 9 (Pn.calm 11 (Pn.eff 10 [9, 8, 7, 6, 5, 4] (Pn.eff 12 [10, 11, 9, 8, 7, 6, 5, 4] (Pn.calm 13 (Pn.eff 14 [13, 12, 0, 1, 2, 3, 4, 5, 6, 7, 8, 9, 10, 11] Pn.done Pn.no)) Pn.no) Pn.no)))))))))))), ⟨by kernel_rfl⟩, ?_⟩
      refine ob_ck H fun h339 H => ?_
      have hel340 : e25 (X198.getD (0 : Int).toNat default) = v189.2.2.1.getD (0 : Int).toNat default := er_get hE199 (by first | exact tn h339 | (have := tn h339; simp at this ⊢; omega) | (have := tn h339; simp; omega))
      have hr341 : (X198.getD (0 : Int).toNat default).2 = (v189.2.2.1.getD (0 : Int).toNat default) := congrArg (fun z => z) hel340
      obtain ⟨A342, c343, hA344⟩ : ∃ A c, (A = (X198.getD (0 : Int).toNat default).1.1 ∧ c = (X198.getD (0 : Int).toNat default).1.2) := ⟨_, _, rfl, rfl⟩
      have hR345 := rd_eq (f := es) hr341 ((P25.of hF197 hC196) _ (getD_mem (Nat.lt_of_lt_of_eq (by first | exact tn h339 | (have := tn h339; simp at this ⊢; omega) | (have := tn h339; simp; omega)) (er_len hE199).symm))).1
      rw [← hA344.1] at hR345
      have hc346 : (v189.2.2.1.getD (0 : Int).toNat default).length ≤ c343 := by rw [hA344.2]; exact Nat.le_trans (Nat.le_of_eq (congrArg List.length hr341.symm)) ((P25.of hF197 hC196) _ (getD_mem (Nat.lt_of_lt_of_eq (by first | exact tn h339 | (have := tn h339; simp at this ⊢; omega) | (have := tn h339; simp; omega)) (er_len hE199).symm))).2
      refine ld_sl (A := A342) (n := (v189.2.2.1.getD (0 : Int).toNat default).length) (c := c343) (by rw [hA344.1, hA344.2]; exact (own_get (ys := ec c25 X198) (by first | rfl | simp [ei, eb, es, ec, c25, c105, c135]) ((ec_get1 (i := (0 : Int).toNat) c25_len (Nat.lt_of_lt_of_eq (by first | exact tn h339 | (have := tn h339; simp at this ⊢; omega) | (have := tn h339; simp; omega)) (er_len hE199).symm)).trans rfl)).trans (congrArg (fun z => some (Value.slice (X198.getD (0 : Int).toNat default).1.1 z (X198.getD (0 : Int).toNat default).1.2)) (congrArg List.length hr341))) ?_
      refine And.intro ?_ trivial
      obtain ⟨v347, hv348, H⟩ := call_st H
      refine ⟨((v189.2.2.1.getD (0 : Int).toNat default), v347), ⟨hv348⟩, ⟨trivial⟩, ?_⟩
      refine And.intro ⟨rfl, hc346, es_len.trans ((show _ = _ from rfl).trans (Nat.mul_one _).symm), hR345⟩ ?_
      obtain rfl := g103_eq hv348
      refine And.intro ⟨fun _ _ _ h => h⟩ ?_
      refine And.intro ?_ trivial
      refine ob_app (by decide) (by first | exact es_one | ((repeat (refine List.forall_mem_cons.2 ⟨rfl, ?_⟩)); intro y hy; cases hy; done) | (intro y hy; simp [ei, eb, es, ec, c25, c105, c135] at hy; (first | (rcases hy with rfl | hy) | subst hy | skip); all_goals first | rfl | simp_all [Value.oneCell'])) H fun h349 H => ?_
      intro n350 zs352 hn351 hz353
      obtain rfl : n350 = ((v189.2.2.1.getD (0 : Int).toNat default) ++ ((v171.drop a1.toNat).take (a2.toNat - a1.toNat))).length := hn351.trans (by first | exact List.length_append.symm | (simp; done) | (simp; omega))
      obtain rfl : zs352 = es ((v189.2.2.1.getD (0 : Int).toNat default) ++ ((v171.drop a1.toNat).take (a2.toNat - a1.toNat))) := by first | exact hz353.trans (es_app (xs := (v189.2.2.1.getD (0 : Int).toNat default)) (ys := ((v171.drop a1.toNat).take (a2.toNat - a1.toNat)))).symm | (rw [hz353, es_vw]; first | exact es_app.symm | exact (es_app (xs := (v189.2.2.1.getD (0 : Int).toNat default))).symm) | (rw [hz353]; simp [ei, eb, es, ec, c25, c105, c135])
      refine And.intro ⟨fun _ _ _ h => h⟩ ?_
      refine ob_ck H fun h354 H => ?_
      refine And.intro ?_ trivial
      intro q355 A356 c357 hq358 hc359 hR360
      replace hR360 : Reads q355 A356 (es ((v189.2.2.1.getD (0 : Int).toNat default) ++ ((v171.drop a1.toNat).take (a2.toNat - a1.toNat)))) := Eq.mp (congrArg (Reads q355 A356) (by first | exact rfl | (simp only [ei, eb, es, ec, c25, c105, c135, gmin, gmax, List.map_append, List.flatMap_append, List.nil_append, List.append_nil, List.append_assoc]; done))) hR360
      refine And.intro ⟨by have := tn h354; have hx := er_len hE199; rw [ec_len c25_len]; omega⟩ ?_
      intro n361 zs363 hn362 hz364
      subst hn362
      have hl365 : (v189.2.2.1.set (0 : Int).toNat ((v189.2.2.1.getD (0 : Int).toNat default) ++ ((v171.drop a1.toNat).take (a2.toNat - a1.toNat)))).length = v189.2.2.1.length := List.length_set
      obtain ⟨X366, hE367, hP368, hl369, rfl⟩ := nx (f := e25) (C := c25) (P := P25 _) (zs := zs363) (er_set (i := (0 : Int).toNat) (v := ((A356, c357), ((v189.2.2.1.getD (0 : Int).toNat default) ++ ((v171.drop a1.toNat).take (a2.toNat - a1.toNat))))) (u := ((v189.2.2.1.getD (0 : Int).toNat default) ++ ((v171.drop a1.toNat).take (a2.toNat - a1.toNat)))) hE199 rfl) (pin_set (fun p hp => P25.mono hq358 ((P25.of hF197 hC196) p hp)) ⟨hR360, hc359⟩) (hz364.trans (ec_set1 (v := ((A356, c357), ((v189.2.2.1.getD (0 : Int).toNat default) ++ ((v171.drop a1.toNat).take (a2.toNat - a1.toNat))))) c25_len rfl))
      refine And.intro ⟨fun _ _ _ h => (hq358 _ _ _ h)⟩ ?_
      have hfin := fin_st H
      subst hfin
      refine ⟨(X366, X202), ⟨⟨hE367, P25.cap hP368, hE203, P105.cap (fun p hp => P105.mono hq358 ((P105.of hF201 hC200) p hp))⟩⟩, ⟨(rdsOk_app.2 ⟨(rdsOk_app.2 ⟨trivial, P25.rds hP368⟩), P105.rds (fun p hp => P105.mono hq358 ((P105.of hF201 hC200) p hp))⟩)⟩, ?_⟩
      repeat refine mo1E5 ?_
      first | exact trivial | exact rfl
     ·intro q370 A371 c372 hq373 hc374 hR375
      replace hR375 : Reads q370 A371 (es ((v171.drop a1.toNat).take (a2.toNat - a1.toNat))) := Eq.mp (congrArg (Reads q370 A371) (by first | exact rfl | (simp only [ei, eb, es, ec, c25, c105, c135, gmin, gmax, List.map_append, List.flatMap_append, List.nil_append, List.append_nil, List.append_assoc]; done))) hR375
      refine ob_app (by decide) (by first | exact (ec_one c25_one) | ((repeat (refine List.forall_mem_cons.2 ⟨rfl, ?_⟩)); intro y hy; cases hy; done) | (intro y hy; simp [ei, eb, es, ec, c25, c105, c135] at hy; (first | (rcases hy with rfl | hy) | subst hy | skip); all_goals first | rfl | simp_all [Value.oneCell'])) H fun h376 H => ?_
      intro n377 zs379 hn378 hz380
      obtain rfl : n377 = (([((v171.drop a1.toNat).take (a2.toNat - a1.toNat))] : List (List ByteArray)) ++ v189.2.2.1).length := hn378.trans (by first | exact List.length_append.symm | (simp; done) | (simp; omega))
      obtain ⟨X381, hE382, hP383, hl384, rfl⟩ := nx (f := e25) (C := c25) (P := P25 _) (zs := zs379) (er_app (show List.map e25 ([((A371, c372), ((v171.drop a1.toNat).take (a2.toNat - a1.toNat)))] : List ((Option Addr × Nat) × List ByteArray)) = ([((v171.drop a1.toNat).take (a2.toNat - a1.toNat))] : List (List ByteArray)) from rfl) hE199) (pin_app (pin_one ⟨hR375, hc374⟩) (fun p hp => P25.mono hq373 ((P25.of hF197 hC196) p hp))) (by first | exact hz380.trans (ec_app (c := c25) (xs := ([((A371, c372), ((v171.drop a1.toNat).take (a2.toNat - a1.toNat)))] : List ((Option Addr × Nat) × List ByteArray))) (ys := X198)).symm | (rw [hz380, (ec_vw c25_len)]; exact (ec_app (c := c25) (xs := ([((A371, c372), ((v171.drop a1.toNat).take (a2.toNat - a1.toNat)))] : List ((Option Addr × Nat) × List ByteArray))) (ys := X198)).symm))
      refine if_st H (fun h385 H => ?_) (fun h385 H => ?_)
      ·refine ob_ck H fun h386 H => ?_
       try dsimp only at h386
       intro n387 hn388
       subst hn388
       refine And.intro ⟨by first | omega | (dsimp only; omega)⟩ ?_
       intro n389 zs391 hn390 hz392
       obtain rfl : n389 = ((([((v171.drop a1.toNat).take (a2.toNat - a1.toNat))] : List (List ByteArray)) ++ v189.2.2.1).take ((16 : Int).toNat - (0 : Int).toNat)).length := hn390.trans (by rw [List.length_take]; omega)
       obtain ⟨X393, hE394, hP395, hl396, rfl⟩ := nx (f := e25) (C := c25) (P := P25 _) (zs := zs391) (er_take hE382) (pin_take hP383) (hz392.trans (ec_take c25_len))
       have hfin := fin_st H
       subst hfin
       refine ⟨(X393, X202), ⟨⟨hE394, P25.cap hP395, hE203, P105.cap (fun p hp => P105.mono hq373 ((P105.of hF201 hC200) p hp))⟩⟩, ⟨(rdsOk_app.2 ⟨(rdsOk_app.2 ⟨trivial, P25.rds hP395⟩), P105.rds (fun p hp => P105.mono hq373 ((P105.of hF201 hC200) p hp))⟩)⟩, ?_⟩
       repeat refine mo1E5 ?_
       first | exact trivial | exact rfl
      ·have hfin := fin_st H
       subst hfin
       refine ⟨(X381, X202), ⟨⟨hE382, P25.cap hP383, hE203, P105.cap (fun p hp => P105.mono hq373 ((P105.of hF201 hC200) p hp))⟩⟩, ⟨(rdsOk_app.2 ⟨(rdsOk_app.2 ⟨trivial, P25.rds hP383⟩), P105.rds (fun p hp => P105.mono hq373 ((P105.of hF201 hC200) p hp))⟩)⟩, ?_⟩
       repeat refine mo1E5 ?_
       first | exact trivial | exact rfl
noncomputable def g76 (a0 : ((Int × List ByteArray × Int × Int) × List (List ByteArray) × List ((List ByteArray) × Int) × Bool × Bool × Int × Int)) : Option (Bool × ((Int × List ByteArray × Int × Int) × List (List ByteArray) × List ((List ByteArray) × Int) × Bool × Bool × Int × Int)) :=
 if ¬ (a0.2.2.2.2.1 = true) then
  some (false, ((a0.1.1, a0.1.2.1, a0.1.2.2.1, a0.1.2.2.2), a0.2.1, a0.2.2.1, false, false, a0.2.2.2.2.2.1, a0.2.2.2.2.2.2))
 else
  (
   if ((a0.2.1.length : Nat) : Int) < 2 then
    some (false, ((a0.1.1, a0.1.2.1, a0.1.2.2.1, a0.1.2.2.2), a0.2.1, a0.2.2.1, false, false, a0.2.2.2.2.2.1, a0.2.2.2.2.2.2))
   else
    (
     ck (inR .i64 (a0.2.2.2.2.2.2 + 1)) <|
     ck (((a0.2.1.length : Nat) : Int) ≠ 0) <|
     (g75 ((a0.1.1, a0.1.2.1, a0.1.2.2.1, a0.1.2.2.2), a0.2.1, a0.2.2.1, a0.2.2.2.1, a0.2.2.2.2.1, a0.2.2.2.2.2.1, a0.2.2.2.2.2.2) (Int.tmod (a0.2.2.2.2.2.2 + 1) ((a0.2.1.length : Nat) : Int)) a0.2.2.2.2.2.1).bind fun v404 =>
     some (v404.1, ((v404.2.1.1, v404.2.1.2.1, v404.2.1.2.2.1, v404.2.1.2.2.2), v404.2.2.1, v404.2.2.2.1, v404.2.2.2.2.1, v404.2.2.2.2.2.1, v404.2.2.2.2.2.2.1, v404.2.2.2.2.2.2.2))
    )
  )
noncomputable def k76 : Eng.CS := { f := 76, calm := false, more := 8, ι := ((Int × List ByteArray × Int × Int) × List (List ByteArray) × List ((List ByteArray) × Int) × Bool × Bool × Int × Int) × (Bool × ((Int × List ByteArray × Int × Int) × List (List ByteArray) × List ((List ByteArray) × Int) × Bool × Bool × Int × Int)) × (List ((Option Addr × Nat) × List ByteArray) × List (((Option Addr × Nat) × List ByteArray) × Int)), ok := fun i => g76 i.1 = some i.2.1 ∧ i.2.2.1.map e25 = i.1.2.1 ∧ (∀ p ∈ i.2.2.1, cap25 p) ∧ i.2.2.2.map e105 = i.1.2.2.1 ∧ (∀ p ∈ i.2.2.2, cap105 p), rds := fun i => [] ++ (i.2.2.1).flatMap R25 ++ (i.2.2.2).flatMap R105, args := fun i => [.w (.lp 0 0)], res := fun _ => .bad, rn := [(100001, 1, 9, 1), (100000, 1, 25, 1), (100000, 2, 105, 2)], keys := 5, L := fun i => [(0, .cells 73 [.lp 1 0, .own 2, .own 3, bS i.1.2.2.2.1, bS i.1.2.2.2.2.1, .v (.int .i64 (i.1.2.2.2.2.2.1)), .v (.int .i64 (i.1.2.2.2.2.2.2))]), (1, .cells 43 [.v (.int .i64 (i.1.1.1)), .own 4, .v (.int .i64 (i.1.1.2.2.1)), .v (.int .i64 (i.1.1.2.2.2))]), (4, .arr 9 1 i.1.1.2.1.length (es i.1.1.2.1)), (2, .arr 25 1 i.1.2.1.length (ec c25 i.2.2.1)), (3, .arr 105 2 i.1.2.2.1.length (ec c105 i.2.2.2))], gr := true, γ := (List ((Option Addr × Nat) × List ByteArray)) × (List (((Option Addr × Nat) × List ByteArray) × Int)), resG := fun i _ => bS i.2.1.1, LG := fun i g => [(0, .cells 73 [.lp 1 0, .own 5, .own 6, bS i.2.1.2.2.2.2.1, bS i.2.1.2.2.2.2.2.1, .v (.int .i64 (i.2.1.2.2.2.2.2.2.1)), .v (.int .i64 (i.2.1.2.2.2.2.2.2.2))]), (1, .cells 43 [.v (.int .i64 (i.2.1.2.1.1)), .own 7, .v (.int .i64 (i.2.1.2.1.2.2.1)), .v (.int .i64 (i.2.1.2.1.2.2.2))]), (7, .arr 9 1 i.2.1.2.1.2.1.length (es i.2.1.2.1.2.1)), (5, .arr 25 1 i.2.1.2.2.1.length (ec c25 g.1)), (6, .arr 105 2 i.2.1.2.2.2.1.length (ec c105 g.2))], okG := fun i g => g.1.map e25 = i.2.1.2.2.1 ∧ (∀ p ∈ g.1, cap25 p) ∧ g.2.map e105 = i.2.1.2.2.2.1 ∧ (∀ p ∈ g.2, cap105 p), rdsG := fun i g => [] ++ (g.1).flatMap R25 ++ (g.2).flatMap R105, fzr := [] }
set_option maxRecDepth 8000 in
set_option maxHeartbeats 4000000 in
theorem k76_ok : CSOk Try.prog k76 := by
 refine R.cspecG Try.func76 nm76 rfl rfl (fun _ => rfl) ?_
 rintro ⟨a0, r, ⟨X0_2, X0_3⟩⟩ ⟨hok, hE0_2, hC0_2, hE0_3, hC0_3⟩ q hrds args hargs
 obtain ⟨hrds, hF0_3⟩ := rdsOk_app.1 hrds
 obtain ⟨hrds, hF0_2⟩ := rdsOk_app.1 hrds
 dsimp only at hC0_2 hF0_2 hE0_2 hC0_3 hF0_3 hE0_3
 dsimp only [k76] at hargs ⊢
 match args, hargs with
 | [_], hargs =>
 obtain ⟨rfl, _⟩ := hargs
 refine ⟨envC [k75] false [], 6, envC_ok (css_cons ⟨fun h => (by cases h), fun _ => k75_ok⟩ (css_nil)), ?_⟩
 have H : Gives (g76 a0) (fun a => a = r) := ⟨r, hok, rfl⟩
 unfold g76 at H
 clear hok
 refine if_st H (fun h400 H => ?_) (fun h400 H => ?_)
 ·have hfin := fin_st H
  subst hfin
  refine ⟨(X0_2, X0_3), ⟨⟨hE0_2, P25.cap (P25.of hF0_2 hC0_2), hE0_3, P105.cap (P105.of hF0_3 hC0_3)⟩⟩, ⟨(rdsOk_app.2 ⟨(rdsOk_app.2 ⟨trivial, P25.rds (P25.of hF0_2 hC0_2)⟩), P105.rds (P105.of hF0_3 hC0_3)⟩)⟩, ?_⟩
  repeat refine mo1E5 ?_
  first | exact trivial | exact rfl
 ·refine if_st H (fun h401 H => ?_) (fun h401 H => ?_)
  ·have hfin := fin_st H
   subst hfin
   refine ⟨(X0_2, X0_3), ⟨⟨hE0_2, P25.cap (P25.of hF0_2 hC0_2), hE0_3, P105.cap (P105.of hF0_3 hC0_3)⟩⟩, ⟨(rdsOk_app.2 ⟨(rdsOk_app.2 ⟨trivial, P25.rds (P25.of hF0_2 hC0_2)⟩), P105.rds (P105.of hF0_3 hC0_3)⟩)⟩, ?_⟩
   repeat refine mo1E5 ?_
   first | exact trivial | exact rfl
  ·refine And.intro ⟨by kernel_rfl⟩ ?_
   refine ⟨(Pn.calm 0 (Pn.calm 1 (Pn.calm 2 (Pn.calm 3 (Pn.calm 4 (Pn.calm 5 (Pn.calm 6 (Pn.calm 7 (Pn.calm 8 (Pn.calm 9 (Pn.calm 10 (Pn.calm 11 (Pn.calm 12 (Pn.calm 13 (Pn.calm 14 (Pn.calm 15 (Pn.eff 16 [0, 11, 15, 5, 10, 14, 4, 9, 13, 3, 8, 12, 2, 7, 1, 6] (Pn.calm 17 Pn.done) Pn.no))))))))))))))))), ⟨by kernel_rfl⟩, ?_⟩
   refine ob_ck H fun h402 H => ?_
   refine ob_ck H fun h403 H => ?_
   refine And.intro ?_ trivial
   obtain ⟨v404, hv405, H⟩ := call_st H
   refine ⟨(((a0.1.1, a0.1.2.1, a0.1.2.2.1, a0.1.2.2.2), a0.2.1, a0.2.2.1, a0.2.2.2.1, a0.2.2.2.2.1, a0.2.2.2.2.2.1, a0.2.2.2.2.2.2), Int.tmod (a0.2.2.2.2.2.2 + 1) ((a0.2.1.length : Nat) : Int), a0.2.2.2.2.2.1, v404, (X0_2, X0_3)), ⟨hv405, hE0_2, P25.cap (P25.of hF0_2 hC0_2), hE0_3, P105.cap (P105.of hF0_3 hC0_3)⟩, ⟨(rdsOk_app.2 ⟨(rdsOk_app.2 ⟨trivial, P25.rds (P25.of hF0_2 hC0_2)⟩), P105.rds (P105.of hF0_3 hC0_3)⟩)⟩, ?_⟩
   iterate 3 refine And.intro ⟨rfl⟩ ?_
   iterate 11 refine mo1E5 ?_
   intro q406 g407 hq408 hok409 hrd410
   obtain ⟨X413, X417⟩ := g407
   obtain ⟨hE414, hC411, hE418, hC415⟩ := hok409
   obtain ⟨hrd410, hF416⟩ := rdsOk_app.1 hrd410
   obtain ⟨hrd410, hF412⟩ := rdsOk_app.1 hrd410
   try dsimp only at hC411 hF412 hE414 hC415 hF416 hE418
   refine And.intro ⟨fun _ _ _ h => (hq408 _ _ _ h)⟩ ?_
   have hfin := fin_st H
   subst hfin
   refine ⟨(X413, X417), ⟨⟨hE414, P25.cap (P25.of hF412 hC411), hE418, P105.cap (P105.of hF416 hC415)⟩⟩, ⟨(rdsOk_app.2 ⟨(rdsOk_app.2 ⟨trivial, P25.rds (P25.of hF412 hC411)⟩), P105.rds (P105.of hF416 hC415)⟩)⟩, ?_⟩
   repeat refine mo1E5 ?_
   first | exact trivial | exact rfl
noncomputable def g70 (a0 : ((Int × List ByteArray × Int × Int) × List (List ByteArray) × List ((List ByteArray) × Int) × Bool × Bool × Int × Int)) (a1 : Int) : Option (Bool × ((Int × List ByteArray × Int × Int) × List (List ByteArray) × List ((List ByteArray) × Int) × Bool × Bool × Int × Int)) :=
 (g13 (a0.1.1, a0.1.2.1, a0.1.2.2.1, a0.1.2.2.2)).bind fun v419 =>
 (g12 (a0.1.1, a0.1.2.1, a0.1.2.2.1, a0.1.2.2.2) a1).bind fun v421 =>
 some ((decide (¬ v421.1 = v419)), ((v421.2.1, v421.2.2.1, v421.2.2.2.1, v421.2.2.2.2), a0.2.1, a0.2.2.1, false, false, a0.2.2.2.2.2.1, a0.2.2.2.2.2.2))
noncomputable def k70 : Eng.CS := { f := 70, calm := false, more := 8, ι := ((Int × List ByteArray × Int × Int) × List (List ByteArray) × List ((List ByteArray) × Int) × Bool × Bool × Int × Int) × Int × (Bool × ((Int × List ByteArray × Int × Int) × List (List ByteArray) × List ((List ByteArray) × Int) × Bool × Bool × Int × Int)) × (List ((Option Addr × Nat) × List ByteArray) × List (((Option Addr × Nat) × List ByteArray) × Int)), ok := fun i => g70 i.1 i.2.1 = some i.2.2.1 ∧ i.2.2.2.1.map e25 = i.1.2.1 ∧ (∀ p ∈ i.2.2.2.1, cap25 p) ∧ i.2.2.2.2.map e105 = i.1.2.2.1 ∧ (∀ p ∈ i.2.2.2.2, cap105 p), rds := fun i => [] ++ (i.2.2.2.1).flatMap R25 ++ (i.2.2.2.2).flatMap R105, args := fun i => [.w (.lp 0 0), .w (.v (.int .i64 (i.2.1)))], res := fun _ => .bad, rn := [(100001, 1, 9, 1), (100000, 1, 25, 1), (100000, 2, 105, 2)], keys := 5, L := fun i => [(0, .cells 73 [.lp 1 0, .own 2, .own 3, bS i.1.2.2.2.1, bS i.1.2.2.2.2.1, .v (.int .i64 (i.1.2.2.2.2.2.1)), .v (.int .i64 (i.1.2.2.2.2.2.2))]), (1, .cells 43 [.v (.int .i64 (i.1.1.1)), .own 4, .v (.int .i64 (i.1.1.2.2.1)), .v (.int .i64 (i.1.1.2.2.2))]), (4, .arr 9 1 i.1.1.2.1.length (es i.1.1.2.1)), (2, .arr 25 1 i.1.2.1.length (ec c25 i.2.2.2.1)), (3, .arr 105 2 i.1.2.2.1.length (ec c105 i.2.2.2.2))], gr := true, γ := (List ((Option Addr × Nat) × List ByteArray)) × (List (((Option Addr × Nat) × List ByteArray) × Int)), resG := fun i _ => bS i.2.2.1.1, LG := fun i g => [(0, .cells 73 [.lp 1 0, .own 5, .own 6, bS i.2.2.1.2.2.2.2.1, bS i.2.2.1.2.2.2.2.2.1, .v (.int .i64 (i.2.2.1.2.2.2.2.2.2.1)), .v (.int .i64 (i.2.2.1.2.2.2.2.2.2.2))]), (1, .cells 43 [.v (.int .i64 (i.2.2.1.2.1.1)), .own 7, .v (.int .i64 (i.2.2.1.2.1.2.2.1)), .v (.int .i64 (i.2.2.1.2.1.2.2.2))]), (7, .arr 9 1 i.2.2.1.2.1.2.1.length (es i.2.2.1.2.1.2.1)), (5, .arr 25 1 i.2.2.1.2.2.1.length (ec c25 g.1)), (6, .arr 105 2 i.2.2.1.2.2.2.1.length (ec c105 g.2))], okG := fun i g => g.1.map e25 = i.2.2.1.2.2.1 ∧ (∀ p ∈ g.1, cap25 p) ∧ g.2.map e105 = i.2.2.1.2.2.2.1 ∧ (∀ p ∈ g.2, cap105 p), rdsG := fun i g => [] ++ (g.1).flatMap R25 ++ (g.2).flatMap R105, fzr := [] }
set_option maxRecDepth 8000 in
set_option maxHeartbeats 4000000 in
theorem k70_ok : CSOk Try.prog k70 := by
 refine R.cspecG Try.func70 nm70 rfl rfl (fun _ => rfl) ?_
 rintro ⟨a0, a1, r, ⟨X0_2, X0_3⟩⟩ ⟨hok, hE0_2, hC0_2, hE0_3, hC0_3⟩ q hrds args hargs
 obtain ⟨hrds, hF0_3⟩ := rdsOk_app.1 hrds
 obtain ⟨hrds, hF0_2⟩ := rdsOk_app.1 hrds
 dsimp only at hC0_2 hF0_2 hE0_2 hC0_3 hF0_3 hE0_3
 dsimp only [k70] at hargs ⊢
 match args, hargs with
 | [_, _], hargs =>
 obtain ⟨rfl, rfl, _⟩ := hargs
 refine ⟨envC [k12, k13] false [], 6, envC_ok (css_cons ⟨fun h => (by cases h), fun _ => k12_ok⟩ (css_cons ⟨fun _ => k13_ok, fun h => (by cases h)⟩ (css_nil))), ?_⟩
 have H : Gives (g70 a0 a1) (fun a => a = r) := ⟨r, hok, rfl⟩
 unfold g70 at H
 clear hok
 obtain ⟨v419, hv420, H⟩ := call_st H
 refine ⟨((a0.1.1, a0.1.2.1, a0.1.2.2.1, a0.1.2.2.2), v419), ⟨hv420⟩, ⟨trivial⟩, ?_⟩
 iterate 4 refine mo1E5 ?_
 obtain ⟨v421, hv422, H⟩ := call_st H
 refine ⟨((a0.1.1, a0.1.2.1, a0.1.2.2.1, a0.1.2.2.2), a1, v421), ⟨hv422⟩, ⟨trivial⟩, ?_⟩
 iterate 2 refine And.intro ⟨rfl⟩ ?_
 iterate 4 refine mo1E5 ?_
 have hfin := fin_st H
 subst hfin
 refine ⟨(X0_2, X0_3), ⟨⟨hE0_2, P25.cap (P25.of hF0_2 hC0_2), hE0_3, P105.cap (P105.of hF0_3 hC0_3)⟩⟩, ⟨(rdsOk_app.2 ⟨(rdsOk_app.2 ⟨trivial, P25.rds (P25.of hF0_2 hC0_2)⟩), P105.rds (P105.of hF0_3 hC0_3)⟩)⟩, ?_⟩
 repeat refine mo1E5 ?_
 first | exact trivial | exact rfl
end Go.Proofs.Ytenjkphlbdhaiaa
end
section
namespace Go.Proofs.Ytenjkphlbdhaiaa
open Go Go.Eng
theorem mo1E6 {p q : Prop} (k : q) (h : p := by first | exact rfl | exact Iff.rfl | exact ⟨rfl, rfl⟩ | exact decide_eq_true_iff | (constructor <;> first | exact rfl | (simp only [ei, eb, es, ec, c25, c105, c135, gmin, gmax, List.map_append, List.flatMap_append, List.nil_append, List.append_nil, List.append_assoc]; done) | omega | (simp only [List.nil_append, List.length_append, List.length_cons, List.length_nil]; omega) | (simp [ei, eb, es, ec, c25, c105, c135, gmin, gmax]; done)) | exact rfl | (simp only [ei, eb, es, ec, c25, c105, c135, gmin, gmax, List.map_append, List.flatMap_append, List.nil_append, List.append_nil, List.append_assoc]; done) | omega | (simp only [List.nil_append, List.length_append, List.length_cons, List.length_nil]; omega) | (simp [ei, eb, es, ec, c25, c105, c135, gmin, gmax]; done) | simp [ei, eb, es, ec, c25, c105, c135, gmin, gmax]) : Ob p ∧ q := ⟨⟨h⟩, k⟩
noncomputable def g102 (a0 : ((Int × List ByteArray × Int × Int) × List (List ByteArray) × List ((List ByteArray) × Int) × Bool × Bool × Int × Int)) (a1 : Int) : Option (Bool × ((Int × List ByteArray × Int × Int) × List (List ByteArray) × List ((List ByteArray) × Int) × Bool × Bool × Int × Int)) :=
 (g24 (a0.1.1, a0.1.2.1, a0.1.2.2.1, a0.1.2.2.2) a1).bind fun v1 =>
 if ¬ (v1.2 = true) then
  some (false, ((a0.1.1, a0.1.2.1, a0.1.2.2.1, a0.1.2.2.2), a0.2.1, a0.2.2.1, a0.2.2.2.1, a0.2.2.2.2.1, a0.2.2.2.2.2.1, a0.2.2.2.2.2.2))
 else
  (
   ck (0 ≤ (0 : Int) ∧ 0 < (v1.1.size : Int)) <|
   if 128 ≤ ((v1.1.data.toList[(0 : Int).toNat]?.getD 0).toNat : Int) then
    (
     if 128 ≤ ((v1.1.data.toList[(0 : Int).toNat]?.getD 0).toNat : Int) then
      some (true, ((a0.1.1, a0.1.2.1, a0.1.2.2.1, a0.1.2.2.2), a0.2.1, a0.2.2.1, a0.2.2.2.1, a0.2.2.2.2.1, a0.2.2.2.2.2.1, a0.2.2.2.2.2.2))
     else
      some (false, ((a0.1.1, a0.1.2.1, a0.1.2.2.1, a0.1.2.2.2), a0.2.1, a0.2.2.1, a0.2.2.2.1, a0.2.2.2.2.1, a0.2.2.2.2.2.1, a0.2.2.2.2.2.2))
    )
   else
    (
     jn (α := _) (β := Bool) (fun k37 =>
       if 48 ≤ ((v1.1.data.toList[(0 : Int).toNat]?.getD 0).toNat : Int) then
        k37 (decide (((v1.1.data.toList[(0 : Int).toNat]?.getD 0).toNat : Int) ≤ 57))
       else
        k37 false
     ) (fun v36 =>
      if v36 = true then
       (
        if v36 = true then
         some (true, ((a0.1.1, a0.1.2.1, a0.1.2.2.1, a0.1.2.2.2), a0.2.1, a0.2.2.1, a0.2.2.2.1, a0.2.2.2.2.1, a0.2.2.2.2.2.1, a0.2.2.2.2.2.2))
        else
         some (false, ((a0.1.1, a0.1.2.1, a0.1.2.2.1, a0.1.2.2.2), a0.2.1, a0.2.2.1, a0.2.2.2.1, a0.2.2.2.2.1, a0.2.2.2.2.2.1, a0.2.2.2.2.2.2))
       )
      else
       (
        if 65 ≤ ((v1.1.data.toList[(0 : Int).toNat]?.getD 0).toNat : Int) then
         (
          if ((v1.1.data.toList[(0 : Int).toNat]?.getD 0).toNat : Int) ≤ 90 then
           (
            if ((v1.1.data.toList[(0 : Int).toNat]?.getD 0).toNat : Int) ≤ 90 then
             some (true, ((a0.1.1, a0.1.2.1, a0.1.2.2.1, a0.1.2.2.2), a0.2.1, a0.2.2.1, a0.2.2.2.1, a0.2.2.2.2.1, a0.2.2.2.2.2.1, a0.2.2.2.2.2.2))
            else
             some (false, ((a0.1.1, a0.1.2.1, a0.1.2.2.1, a0.1.2.2.2), a0.2.1, a0.2.2.1, a0.2.2.2.1, a0.2.2.2.2.1, a0.2.2.2.2.2.1, a0.2.2.2.2.2.2))
           )
          else
           (
            if 97 ≤ ((v1.1.data.toList[(0 : Int).toNat]?.getD 0).toNat : Int) then
             (
              if ((v1.1.data.toList[(0 : Int).toNat]?.getD 0).toNat : Int) ≤ 122 then
               some (true, ((a0.1.1, a0.1.2.1, a0.1.2.2.1, a0.1.2.2.2), a0.2.1, a0.2.2.1, a0.2.2.2.1, a0.2.2.2.2.1, a0.2.2.2.2.2.1, a0.2.2.2.2.2.2))
              else
               some (false, ((a0.1.1, a0.1.2.1, a0.1.2.2.1, a0.1.2.2.2), a0.2.1, a0.2.2.1, a0.2.2.2.1, a0.2.2.2.2.1, a0.2.2.2.2.2.1, a0.2.2.2.2.2.2))
             )
            else
             some (false, ((a0.1.1, a0.1.2.1, a0.1.2.2.1, a0.1.2.2.2), a0.2.1, a0.2.2.1, a0.2.2.2.1, a0.2.2.2.2.1, a0.2.2.2.2.2.1, a0.2.2.2.2.2.2))
           )
         )
        else
         (
          if 97 ≤ ((v1.1.data.toList[(0 : Int).toNat]?.getD 0).toNat : Int) then
           (
            if ((v1.1.data.toList[(0 : Int).toNat]?.getD 0).toNat : Int) ≤ 122 then
             some (true, ((a0.1.1, a0.1.2.1, a0.1.2.2.1, a0.1.2.2.2), a0.2.1, a0.2.2.1, a0.2.2.2.1, a0.2.2.2.2.1, a0.2.2.2.2.2.1, a0.2.2.2.2.2.2))
            else
             some (false, ((a0.1.1, a0.1.2.1, a0.1.2.2.1, a0.1.2.2.2), a0.2.1, a0.2.2.1, a0.2.2.2.1, a0.2.2.2.2.1, a0.2.2.2.2.2.1, a0.2.2.2.2.2.2))
           )
          else
           some (false, ((a0.1.1, a0.1.2.1, a0.1.2.2.1, a0.1.2.2.2), a0.2.1, a0.2.2.1, a0.2.2.2.1, a0.2.2.2.2.1, a0.2.2.2.2.2.1, a0.2.2.2.2.2.2))
         )
       )
     )
    )
  )
noncomputable def k102 : Eng.CS := { f := 102, calm := false, more := 8, ι := ((Int × List ByteArray × Int × Int) × List (List ByteArray) × List ((List ByteArray) × Int) × Bool × Bool × Int × Int) × Int × (Bool × ((Int × List ByteArray × Int × Int) × List (List ByteArray) × List ((List ByteArray) × Int) × Bool × Bool × Int × Int)) × (List ((Option Addr × Nat) × List ByteArray) × List (((Option Addr × Nat) × List ByteArray) × Int)), ok := fun i => g102 i.1 i.2.1 = some i.2.2.1 ∧ i.2.2.2.1.map e25 = i.1.2.1 ∧ (∀ p ∈ i.2.2.2.1, cap25 p) ∧ i.2.2.2.2.map e105 = i.1.2.2.1 ∧ (∀ p ∈ i.2.2.2.2, cap105 p), rds := fun i => [] ++ (i.2.2.2.1).flatMap R25 ++ (i.2.2.2.2).flatMap R105, args := fun i => [.w (.lp 0 0), .w (.v (.int .i64 (i.2.1)))], res := fun _ => .bad, rn := [(100001, 1, 9, 1), (100000, 1, 25, 1), (100000, 2, 105, 2)], keys := 5, L := fun i => [(0, .cells 73 [.lp 1 0, .own 2, .own 3, bS i.1.2.2.2.1, bS i.1.2.2.2.2.1, .v (.int .i64 (i.1.2.2.2.2.2.1)), .v (.int .i64 (i.1.2.2.2.2.2.2))]), (1, .cells 43 [.v (.int .i64 (i.1.1.1)), .own 4, .v (.int .i64 (i.1.1.2.2.1)), .v (.int .i64 (i.1.1.2.2.2))]), (4, .arr 9 1 i.1.1.2.1.length (es i.1.1.2.1)), (2, .arr 25 1 i.1.2.1.length (ec c25 i.2.2.2.1)), (3, .arr 105 2 i.1.2.2.1.length (ec c105 i.2.2.2.2))], gr := true, γ := (List ((Option Addr × Nat) × List ByteArray)) × (List (((Option Addr × Nat) × List ByteArray) × Int)), resG := fun i _ => bS i.2.2.1.1, LG := fun i g => [(0, .cells 73 [.lp 1 0, .own 5, .own 6, bS i.2.2.1.2.2.2.2.1, bS i.2.2.1.2.2.2.2.2.1, .v (.int .i64 (i.2.2.1.2.2.2.2.2.2.1)), .v (.int .i64 (i.2.2.1.2.2.2.2.2.2.2))]), (1, .cells 43 [.v (.int .i64 (i.2.2.1.2.1.1)), .own 7, .v (.int .i64 (i.2.2.1.2.1.2.2.1)), .v (.int .i64 (i.2.2.1.2.1.2.2.2))]), (7, .arr 9 1 i.2.2.1.2.1.2.1.length (es i.2.2.1.2.1.2.1)), (5, .arr 25 1 i.2.2.1.2.2.1.length (ec c25 g.1)), (6, .arr 105 2 i.2.2.1.2.2.2.1.length (ec c105 g.2))], okG := fun i g => g.1.map e25 = i.2.2.1.2.2.1 ∧ (∀ p ∈ g.1, cap25 p) ∧ g.2.map e105 = i.2.2.1.2.2.2.1 ∧ (∀ p ∈ g.2, cap105 p), rdsG := fun i g => [] ++ (g.1).flatMap R25 ++ (g.2).flatMap R105, fzr := [] }
set_option maxRecDepth 8000 in
set_option maxHeartbeats 4000000 in
theorem k102_ok : CSOk Try.prog k102 := by
 refine R.cspecG Try.func102 nm102 rfl rfl (fun _ => rfl) ?_
 rintro ⟨a0, a1, r, ⟨X0_2, X0_3⟩⟩ ⟨hok, hE0_2, hC0_2, hE0_3, hC0_3⟩ q hrds args hargs
 obtain ⟨hrds, hF0_3⟩ := rdsOk_app.1 hrds
 obtain ⟨hrds, hF0_2⟩ := rdsOk_app.1 hrds
 dsimp only at hC0_2 hF0_2 hE0_2 hC0_3 hF0_3 hE0_3
 dsimp only [k102] at hargs ⊢
 match args, hargs with
 | [_, _], hargs =>
 obtain ⟨rfl, rfl, _⟩ := hargs
 refine ⟨envC [k24] false [(102, 7)], 6, envC_ok (css_cons ⟨fun _ => k24_ok, fun h => (by cases h)⟩ (css_nil)), ?_⟩
 have H : Gives (g102 a0 a1) (fun a => a = r) := ⟨r, hok, rfl⟩
 unfold g102 at H
 clear hok
 obtain ⟨v1, hv2, H⟩ := call_st H
 refine ⟨((a0.1.1, a0.1.2.1, a0.1.2.2.1, a0.1.2.2.2), a1, v1), ⟨hv2⟩, ⟨trivial⟩, ?_⟩
 iterate 4 refine mo1E6 ?_
 refine And.intro ⟨rfl⟩ ?_
 refine if_st H (fun h4 H => ?_) (fun h4 H => ?_)
 ·have hfin := fin_st H
  subst hfin
  refine ⟨(X0_2, X0_3), ⟨⟨hE0_2, P25.cap (P25.of hF0_2 hC0_2), hE0_3, P105.cap (P105.of hF0_3 hC0_3)⟩⟩, ⟨(rdsOk_app.2 ⟨(rdsOk_app.2 ⟨trivial, P25.rds (P25.of hF0_2 hC0_2)⟩), P105.rds (P105.of hF0_3 hC0_3)⟩)⟩, ?_⟩
  repeat refine mo1E6 ?_
  first | exact trivial | exact rfl
 ·refine ob_ck H fun h5 H => ?_
  refine if_st H (fun h33 H => ?_) (fun h33 H => ?_)
  ·refine if_st H (fun h34 H => ?_) (fun h34 H => ?_)
   ·have hfin := fin_st H
    subst hfin
    refine ⟨(X0_2, X0_3), ⟨⟨hE0_2, P25.cap (P25.of hF0_2 hC0_2), hE0_3, P105.cap (P105.of hF0_3 hC0_3)⟩⟩, ⟨(rdsOk_app.2 ⟨(rdsOk_app.2 ⟨trivial, P25.rds (P25.of hF0_2 hC0_2)⟩), P105.rds (P105.of hF0_3 hC0_3)⟩)⟩, ?_⟩
    repeat refine mo1E6 ?_
    first | exact trivial | exact rfl
   ·have hfin := fin_st H
    subst hfin
    refine ⟨(X0_2, X0_3), ⟨⟨hE0_2, P25.cap (P25.of hF0_2 hC0_2), hE0_3, P105.cap (P105.of hF0_3 hC0_3)⟩⟩, ⟨(rdsOk_app.2 ⟨(rdsOk_app.2 ⟨trivial, P25.rds (P25.of hF0_2 hC0_2)⟩), P105.rds (P105.of hF0_3 hC0_3)⟩)⟩, ?_⟩
    repeat refine mo1E6 ?_
    first | exact trivial | exact rfl
  ·refine R.cut_fam H 33 [7] [] (fun v36 => [(21, bS v36)]) (fun v36 => []) [(0, .cells 73 [.lp 1 0, .own 2, .own 3, bS a0.2.2.2.1, bS a0.2.2.2.2.1, .v (.int .i64 (a0.2.2.2.2.2.1)), .v (.int .i64 (a0.2.2.2.2.2.2))]), (1, .cells 43 [.v (.int .i64 (a0.1.1)), .own 4, .v (.int .i64 (a0.1.2.2.1)), .v (.int .i64 (a0.1.2.2.2))]), (4, .arr 9 1 (a0.1.2.1.length) (es (a0.1.2.1))), (2, .arr 25 1 (a0.2.1.length) (ec c25 (X0_2))), (3, .arr 105 2 (a0.2.2.1.length) (ec c105 (X0_3)))] 0 (fun H => ?_)
   refine And.intro ?_ ?_
   ·refine if_st H (fun h38 H => ?_) (fun h38 H => ?_)
    ·refine ⟨(decide (((v1.1.data.toList[(0 : Int).toNat]?.getD 0).toNat : Int) ≤ 57)), ⟨H⟩, ⟨rfl⟩, ?_⟩
     repeat refine mo1E6 ?_
     first | exact trivial | exact rfl
    ·refine ⟨false, ⟨H⟩, ⟨rfl⟩, ?_⟩
     repeat refine mo1E6 ?_
     first | exact trivial | exact rfl
   ·intro v36 H
    refine if_st H (fun h39 H => ?_) (fun h39 H => ?_)
    ·refine if_st H (fun h40 H => ?_) (fun h40 H => ?_)
     ·have hfin := fin_st H
      subst hfin
      refine ⟨(X0_2, X0_3), ⟨⟨hE0_2, P25.cap (P25.of hF0_2 hC0_2), hE0_3, P105.cap (P105.of hF0_3 hC0_3)⟩⟩, ⟨(rdsOk_app.2 ⟨(rdsOk_app.2 ⟨trivial, P25.rds (P25.of hF0_2 hC0_2)⟩), P105.rds (P105.of hF0_3 hC0_3)⟩)⟩, ?_⟩
      repeat refine mo1E6 ?_
      first | exact trivial | exact rfl
     ·have hfin := fin_st H
      subst hfin
      refine ⟨(X0_2, X0_3), ⟨⟨hE0_2, P25.cap (P25.of hF0_2 hC0_2), hE0_3, P105.cap (P105.of hF0_3 hC0_3)⟩⟩, ⟨(rdsOk_app.2 ⟨(rdsOk_app.2 ⟨trivial, P25.rds (P25.of hF0_2 hC0_2)⟩), P105.rds (P105.of hF0_3 hC0_3)⟩)⟩, ?_⟩
      repeat refine mo1E6 ?_
      first | exact trivial | exact rfl
    ·refine if_st H (fun h41 H => ?_) (fun h41 H => ?_)
     ·refine if_st H (fun h42 H => ?_) (fun h42 H => ?_)
      ·refine if_st H (fun h43 H => ?_) (fun h43 H => ?_)
       ·have hfin := fin_st H
        subst hfin
        refine ⟨(X0_2, X0_3), ⟨⟨hE0_2, P25.cap (P25.of hF0_2 hC0_2), hE0_3, P105.cap (P105.of hF0_3 hC0_3)⟩⟩, ⟨(rdsOk_app.2 ⟨(rdsOk_app.2 ⟨trivial, P25.rds (P25.of hF0_2 hC0_2)⟩), P105.rds (P105.of hF0_3 hC0_3)⟩)⟩, ?_⟩
        repeat refine mo1E6 ?_
        first | exact trivial | exact rfl
       ·have hfin := fin_st H
        subst hfin
        refine ⟨(X0_2, X0_3), ⟨⟨hE0_2, P25.cap (P25.of hF0_2 hC0_2), hE0_3, P105.cap (P105.of hF0_3 hC0_3)⟩⟩, ⟨(rdsOk_app.2 ⟨(rdsOk_app.2 ⟨trivial, P25.rds (P25.of hF0_2 hC0_2)⟩), P105.rds (P105.of hF0_3 hC0_3)⟩)⟩, ?_⟩
        repeat refine mo1E6 ?_
        first | exact trivial | exact rfl
      ·refine if_st H (fun h44 H => ?_) (fun h44 H => ?_)
       ·refine if_st H (fun h45 H => ?_) (fun h45 H => ?_)
        ·have hfin := fin_st H
         subst hfin
         refine ⟨(X0_2, X0_3), ⟨⟨hE0_2, P25.cap (P25.of hF0_2 hC0_2), hE0_3, P105.cap (P105.of hF0_3 hC0_3)⟩⟩, ⟨(rdsOk_app.2 ⟨(rdsOk_app.2 ⟨trivial, P25.rds (P25.of hF0_2 hC0_2)⟩), P105.rds (P105.of hF0_3 hC0_3)⟩)⟩, ?_⟩
         repeat refine mo1E6 ?_
         first | exact trivial | exact rfl
        ·have hfin := fin_st H
         subst hfin
         refine ⟨(X0_2, X0_3), ⟨⟨hE0_2, P25.cap (P25.of hF0_2 hC0_2), hE0_3, P105.cap (P105.of hF0_3 hC0_3)⟩⟩, ⟨(rdsOk_app.2 ⟨(rdsOk_app.2 ⟨trivial, P25.rds (P25.of hF0_2 hC0_2)⟩), P105.rds (P105.of hF0_3 hC0_3)⟩)⟩, ?_⟩
         repeat refine mo1E6 ?_
         first | exact trivial | exact rfl
       ·have hfin := fin_st H
        subst hfin
        refine ⟨(X0_2, X0_3), ⟨⟨hE0_2, P25.cap (P25.of hF0_2 hC0_2), hE0_3, P105.cap (P105.of hF0_3 hC0_3)⟩⟩, ⟨(rdsOk_app.2 ⟨(rdsOk_app.2 ⟨trivial, P25.rds (P25.of hF0_2 hC0_2)⟩), P105.rds (P105.of hF0_3 hC0_3)⟩)⟩, ?_⟩
        repeat refine mo1E6 ?_
        first | exact trivial | exact rfl
     ·refine if_st H (fun h46 H => ?_) (fun h46 H => ?_)
      ·refine if_st H (fun h47 H => ?_) (fun h47 H => ?_)
       ·have hfin := fin_st H
        subst hfin
        refine ⟨(X0_2, X0_3), ⟨⟨hE0_2, P25.cap (P25.of hF0_2 hC0_2), hE0_3, P105.cap (P105.of hF0_3 hC0_3)⟩⟩, ⟨(rdsOk_app.2 ⟨(rdsOk_app.2 ⟨trivial, P25.rds (P25.of hF0_2 hC0_2)⟩), P105.rds (P105.of hF0_3 hC0_3)⟩)⟩, ?_⟩
        repeat refine mo1E6 ?_
        first | exact trivial | exact rfl
       ·have hfin := fin_st H
        subst hfin
        refine ⟨(X0_2, X0_3), ⟨⟨hE0_2, P25.cap (P25.of hF0_2 hC0_2), hE0_3, P105.cap (P105.of hF0_3 hC0_3)⟩⟩, ⟨(rdsOk_app.2 ⟨(rdsOk_app.2 ⟨trivial, P25.rds (P25.of hF0_2 hC0_2)⟩), P105.rds (P105.of hF0_3 hC0_3)⟩)⟩, ?_⟩
        repeat refine mo1E6 ?_
        first | exact trivial | exact rfl
      ·have hfin := fin_st H
       subst hfin
       refine ⟨(X0_2, X0_3), ⟨⟨hE0_2, P25.cap (P25.of hF0_2 hC0_2), hE0_3, P105.cap (P105.of hF0_3 hC0_3)⟩⟩, ⟨(rdsOk_app.2 ⟨(rdsOk_app.2 ⟨trivial, P25.rds (P25.of hF0_2 hC0_2)⟩), P105.rds (P105.of hF0_3 hC0_3)⟩)⟩, ?_⟩
       repeat refine mo1E6 ?_
       first | exact trivial | exact rfl
end Go.Proofs.Ytenjkphlbdhaiaa
end
section
namespace Go.Proofs.Ytenjkphlbdhaiaa
open Go Go.Eng
theorem mo1E7 {p q : Prop} (k : q) (h : p := by first | exact rfl | exact Iff.rfl | exact ⟨rfl, rfl⟩ | exact decide_eq_true_iff | (constructor <;> first | exact rfl | (simp only [ei, eb, es, ec, c25, c105, c135, gmin, gmax, List.map_append, List.flatMap_append, List.nil_append, List.append_nil, List.append_assoc]; done) | omega | (simp only [List.nil_append, List.length_append, List.length_cons, List.length_nil]; omega) | (simp [ei, eb, es, ec, c25, c105, c135, gmin, gmax]; done)) | exact rfl | (simp only [ei, eb, es, ec, c25, c105, c135, gmin, gmax, List.map_append, List.flatMap_append, List.nil_append, List.append_nil, List.append_assoc]; done) | omega | (simp only [List.nil_append, List.length_append, List.length_cons, List.length_nil]; omega) | (simp [ei, eb, es, ec, c25, c105, c135, gmin, gmax]; done) | simp [ei, eb, es, ec, c25, c105, c135, gmin, gmax]) : Ob p ∧ q := ⟨⟨h⟩, k⟩
noncomputable def g71 (a0 : ((Int × List ByteArray × Int × Int) × List (List ByteArray) × List ((List ByteArray) × Int) × Bool × Bool × Int × Int)) : Option (Int × ((Int × List ByteArray × Int × Int) × List (List ByteArray) × List ((List ByteArray) × Int) × Bool × Bool × Int × Int)) :=
 (g13 (a0.1.1, a0.1.2.1, a0.1.2.2.1, a0.1.2.2.2)).bind fun v1 =>
 jn (α := _) (β := List (List ByteArray) × List ((List ByteArray) × Int) × Bool × Bool × Int × Int × Int × List ByteArray × Int × Int × Int) (fun k99 =>
   (loopO (σ := List (List ByteArray) × List ((List ByteArray) × Int) × Bool × Bool × Int × Int × Int × List ByteArray × Int × Int × Int) (ρ := List (List ByteArray) × List ((List ByteArray) × Int) × Bool × Bool × Int × Int × Int × List ByteArray × Int × Int × Int) (fun s102 =>
     if 0 < s102.2.2.2.2.2.2.2.2.2.2 then
      (
       ck (inR .i64 (s102.2.2.2.2.2.2.2.2.2.2 - 1)) <|
       (g102 ((s102.2.2.2.2.2.2.1, s102.2.2.2.2.2.2.2.1, s102.2.2.2.2.2.2.2.2.1, s102.2.2.2.2.2.2.2.2.2.1), s102.1, s102.2.1, s102.2.2.1, s102.2.2.2.1, s102.2.2.2.2.1, s102.2.2.2.2.2.1) (s102.2.2.2.2.2.2.2.2.2.2 - 1)).bind fun v151 =>
       if ¬ (v151.1 = true) then
        (
         ck (inR .i64 (s102.2.2.2.2.2.2.2.2.2.2 - 1)) <|
         some (.go (v151.2.2.1, v151.2.2.2.1, v151.2.2.2.2.1, v151.2.2.2.2.2.1, v151.2.2.2.2.2.2.1, v151.2.2.2.2.2.2.2, v151.2.1.1, v151.2.1.2.1, v151.2.1.2.2.1, v151.2.1.2.2.2, s102.2.2.2.2.2.2.2.2.2.2 - 1))
        )
       else
        some (.out (v151.2.2.1, v151.2.2.2.1, v151.2.2.2.2.1, v151.2.2.2.2.2.1, v151.2.2.2.2.2.2.1, v151.2.2.2.2.2.2.2, v151.2.1.1, v151.2.1.2.1, v151.2.1.2.2.1, v151.2.1.2.2.2, s102.2.2.2.2.2.2.2.2.2.2))
      )
     else
      some (.out (s102.1, s102.2.1, s102.2.2.1, s102.2.2.2.1, s102.2.2.2.2.1, s102.2.2.2.2.2.1, s102.2.2.2.2.2.2.1, s102.2.2.2.2.2.2.2.1, s102.2.2.2.2.2.2.2.2.1, s102.2.2.2.2.2.2.2.2.2.1, s102.2.2.2.2.2.2.2.2.2.2))
    ) (a0.2.1, a0.2.2.1, a0.2.2.2.1, a0.2.2.2.2.1, a0.2.2.2.2.2.1, a0.2.2.2.2.2.2, a0.1.1, a0.1.2.1, a0.1.2.2.1, a0.1.2.2.2, v1)).bind fun o148 =>
    k99 (o148.1, o148.2.1, o148.2.2.1, o148.2.2.2.1, o148.2.2.2.2.1, o148.2.2.2.2.2.1, o148.2.2.2.2.2.2.1, o148.2.2.2.2.2.2.2.1, o148.2.2.2.2.2.2.2.2.1, o148.2.2.2.2.2.2.2.2.2.1, o148.2.2.2.2.2.2.2.2.2.2)
 ) (fun v98 =>
  jn (α := _) (β := List (List ByteArray) × List ((List ByteArray) × Int) × Bool × Bool × Int × Int × Int × List ByteArray × Int × Int × Int) (fun k277 =>
    (loopO (σ := List (List ByteArray) × List ((List ByteArray) × Int) × Bool × Bool × Int × Int × Int × List ByteArray × Int × Int × Int) (ρ := List (List ByteArray) × List ((List ByteArray) × Int) × Bool × Bool × Int × Int × Int × List ByteArray × Int × Int × Int) (fun s280 =>
      if 0 < s280.2.2.2.2.2.2.2.2.2.2 then
       (
        ck (inR .i64 (s280.2.2.2.2.2.2.2.2.2.2 - 1)) <|
        (g102 ((s280.2.2.2.2.2.2.1, s280.2.2.2.2.2.2.2.1, s280.2.2.2.2.2.2.2.2.1, s280.2.2.2.2.2.2.2.2.2.1), s280.1, s280.2.1, s280.2.2.1, s280.2.2.2.1, s280.2.2.2.2.1, s280.2.2.2.2.2.1) (s280.2.2.2.2.2.2.2.2.2.2 - 1)).bind fun v329 =>
        if v329.1 = true then
         (
          ck (inR .i64 (s280.2.2.2.2.2.2.2.2.2.2 - 1)) <|
          some (.go (v329.2.2.1, v329.2.2.2.1, v329.2.2.2.2.1, v329.2.2.2.2.2.1, v329.2.2.2.2.2.2.1, v329.2.2.2.2.2.2.2, v329.2.1.1, v329.2.1.2.1, v329.2.1.2.2.1, v329.2.1.2.2.2, s280.2.2.2.2.2.2.2.2.2.2 - 1))
         )
        else
         some (.out (v329.2.2.1, v329.2.2.2.1, v329.2.2.2.2.1, v329.2.2.2.2.2.1, v329.2.2.2.2.2.2.1, v329.2.2.2.2.2.2.2, v329.2.1.1, v329.2.1.2.1, v329.2.1.2.2.1, v329.2.1.2.2.2, s280.2.2.2.2.2.2.2.2.2.2))
       )
      else
       some (.out (s280.1, s280.2.1, s280.2.2.1, s280.2.2.2.1, s280.2.2.2.2.1, s280.2.2.2.2.2.1, s280.2.2.2.2.2.2.1, s280.2.2.2.2.2.2.2.1, s280.2.2.2.2.2.2.2.2.1, s280.2.2.2.2.2.2.2.2.2.1, s280.2.2.2.2.2.2.2.2.2.2))
     ) (v98.1, v98.2.1, v98.2.2.1, v98.2.2.2.1, v98.2.2.2.2.1, v98.2.2.2.2.2.1, v98.2.2.2.2.2.2.1, v98.2.2.2.2.2.2.2.1, v98.2.2.2.2.2.2.2.2.1, v98.2.2.2.2.2.2.2.2.2.1, v98.2.2.2.2.2.2.2.2.2.2)).bind fun o326 =>
     k277 (o326.1, o326.2.1, o326.2.2.1, o326.2.2.2.1, o326.2.2.2.2.1, o326.2.2.2.2.2.1, o326.2.2.2.2.2.2.1, o326.2.2.2.2.2.2.2.1, o326.2.2.2.2.2.2.2.2.1, o326.2.2.2.2.2.2.2.2.2.1, o326.2.2.2.2.2.2.2.2.2.2)
  ) (fun v276 =>
   some (v276.2.2.2.2.2.2.2.2.2.2, ((v276.2.2.2.2.2.2.1, v276.2.2.2.2.2.2.2.1, v276.2.2.2.2.2.2.2.2.1, v276.2.2.2.2.2.2.2.2.2.1), v276.1, v276.2.1, v276.2.2.1, v276.2.2.2.1, v276.2.2.2.2.1, v276.2.2.2.2.2.1))
  )
 )
noncomputable def k71 : Eng.CS := { f := 71, calm := false, more := 8, ι := ((Int × List ByteArray × Int × Int) × List (List ByteArray) × List ((List ByteArray) × Int) × Bool × Bool × Int × Int) × (Int × ((Int × List ByteArray × Int × Int) × List (List ByteArray) × List ((List ByteArray) × Int) × Bool × Bool × Int × Int)) × (List ((Option Addr × Nat) × List ByteArray) × List (((Option Addr × Nat) × List ByteArray) × Int)), ok := fun i => g71 i.1 = some i.2.1 ∧ i.2.2.1.map e25 = i.1.2.1 ∧ (∀ p ∈ i.2.2.1, cap25 p) ∧ i.2.2.2.map e105 = i.1.2.2.1 ∧ (∀ p ∈ i.2.2.2, cap105 p), rds := fun i => [] ++ (i.2.2.1).flatMap R25 ++ (i.2.2.2).flatMap R105, args := fun i => [.w (.lp 0 0)], res := fun _ => .bad, rn := [(100001, 1, 9, 1), (100000, 1, 25, 1), (100000, 2, 105, 2)], keys := 5, L := fun i => [(0, .cells 73 [.lp 1 0, .own 2, .own 3, bS i.1.2.2.2.1, bS i.1.2.2.2.2.1, .v (.int .i64 (i.1.2.2.2.2.2.1)), .v (.int .i64 (i.1.2.2.2.2.2.2))]), (1, .cells 43 [.v (.int .i64 (i.1.1.1)), .own 4, .v (.int .i64 (i.1.1.2.2.1)), .v (.int .i64 (i.1.1.2.2.2))]), (4, .arr 9 1 i.1.1.2.1.length (es i.1.1.2.1)), (2, .arr 25 1 i.1.2.1.length (ec c25 i.2.2.1)), (3, .arr 105 2 i.1.2.2.1.length (ec c105 i.2.2.2))], gr := true, γ := (List ((Option Addr × Nat) × List ByteArray)) × (List (((Option Addr × Nat) × List ByteArray) × Int)), resG := fun i _ => .v (.int .i64 (i.2.1.1)), LG := fun i g => [(0, .cells 73 [.lp 1 0, .own 5, .own 6, bS i.2.1.2.2.2.2.1, bS i.2.1.2.2.2.2.2.1, .v (.int .i64 (i.2.1.2.2.2.2.2.2.1)), .v (.int .i64 (i.2.1.2.2.2.2.2.2.2))]), (1, .cells 43 [.v (.int .i64 (i.2.1.2.1.1)), .own 7, .v (.int .i64 (i.2.1.2.1.2.2.1)), .v (.int .i64 (i.2.1.2.1.2.2.2))]), (7, .arr 9 1 i.2.1.2.1.2.1.length (es i.2.1.2.1.2.1)), (5, .arr 25 1 i.2.1.2.2.1.length (ec c25 g.1)), (6, .arr 105 2 i.2.1.2.2.2.1.length (ec c105 g.2))], okG := fun i g => g.1.map e25 = i.2.1.2.2.1 ∧ (∀ p ∈ g.1, cap25 p) ∧ g.2.map e105 = i.2.1.2.2.2.1 ∧ (∀ p ∈ g.2, cap105 p), rdsG := fun i g => [] ++ (g.1).flatMap R25 ++ (g.2).flatMap R105, fzr := [] }
set_option maxRecDepth 8000 in
set_option maxHeartbeats 4000000 in
theorem k71_ok : CSOk Try.prog k71 := by
 refine R.cspecG Try.func71 nm71 rfl rfl (fun _ => rfl) ?_
 rintro ⟨a0, r, ⟨X0_2, X0_3⟩⟩ ⟨hok, hE0_2, hC0_2, hE0_3, hC0_3⟩ q hrds args hargs
 obtain ⟨hrds, hF0_3⟩ := rdsOk_app.1 hrds
 obtain ⟨hrds, hF0_2⟩ := rdsOk_app.1 hrds
 dsimp only at hC0_2 hF0_2 hE0_2 hC0_3 hF0_3 hE0_3
 dsimp only [k71] at hargs ⊢
 match args, hargs with
 | [_], hargs =>
 obtain ⟨rfl, _⟩ := hargs
 refine ⟨envC [k13, k102] false [(71, 4), (71, 6)], 6, envC_ok (css_cons ⟨fun _ => k13_ok, fun h => (by cases h)⟩ (css_cons ⟨fun h => (by cases h), fun _ => k102_ok⟩ (css_nil))), ?_⟩
 have H : Gives (g71 a0) (fun a => a = r) := ⟨r, hok, rfl⟩
 unfold g71 at H
 clear hok
 obtain ⟨v1, hv2, H⟩ := call_st H
 refine ⟨((a0.1.1, a0.1.2.1, a0.1.2.2.1, a0.1.2.2.2), v1), ⟨hv2⟩, ⟨trivial⟩, ?_⟩
 iterate 4 refine mo1E7 ?_
 refine R.cut_famXG H 37 [0] [] [] (fun (v98 : List (List ByteArray) × List ((List ByteArray) × Int) × Bool × Bool × Int × Int × Int × List ByteArray × Int × Int × Int) (g : (List ((Option Addr × Nat) × List ByteArray)) × (List (((Option Addr × Nat) × List ByteArray) × Int))) => [(3, .v (.int .i64 (v98.2.2.2.2.2.2.2.2.2.2)))]) (fun (v98 : List (List ByteArray) × List ((List ByteArray) × Int) × Bool × Bool × Int × Int × Int × List ByteArray × Int × Int × Int) (g : (List ((Option Addr × Nat) × List ByteArray)) × (List (((Option Addr × Nat) × List ByteArray) × Int))) => [(0, .cells 73 [.lp 1 0, .own 37, .own 38, bS v98.2.2.1, bS v98.2.2.2.1, .v (.int .i64 (v98.2.2.2.2.1)), .v (.int .i64 (v98.2.2.2.2.2.1))]), (1, .cells 43 [.v (.int .i64 (v98.2.2.2.2.2.2.1)), .own 39, .v (.int .i64 (v98.2.2.2.2.2.2.2.2.1)), .v (.int .i64 (v98.2.2.2.2.2.2.2.2.2.1))]), (37, .arr 25 1 (v98.1.length) (ec c25 ((g.1)))), (38, .arr 105 2 (v98.2.1.length) (ec c105 ((g.2)))), (39, .arr 9 1 (v98.2.2.2.2.2.2.2.1.length) (es (v98.2.2.2.2.2.2.2.1)))]) [] 3 (fun q (v98 : List (List ByteArray) × List ((List ByteArray) × Int) × Bool × Bool × Int × Int × Int × List ByteArray × Int × Int × Int) (g : (List ((Option Addr × Nat) × List ByteArray)) × (List (((Option Addr × Nat) × List ByteArray) × Int))) => g.1.map e25 = v98.1 ∧ (∀ p ∈ g.1, P25 q p) ∧ g.2.map e105 = v98.2.1 ∧ (∀ p ∈ g.2, P105 q p)) (fun H => ?_)
 refine And.intro ?_ ?_
 ·refine R.loop_famXG (bind_st H) [0] [] [] (fun _ => fun (s102 : List (List ByteArray) × List ((List ByteArray) × Int) × Bool × Bool × Int × Int × Int × List ByteArray × Int × Int × Int) (g : (List ((Option Addr × Nat) × List ByteArray)) × (List (((Option Addr × Nat) × List ByteArray) × Int))) => [(3, .v (.int .i64 (s102.2.2.2.2.2.2.2.2.2.2)))]) (fun _ => fun (s102 : List (List ByteArray) × List ((List ByteArray) × Int) × Bool × Bool × Int × Int × Int × List ByteArray × Int × Int × Int) (g : (List ((Option Addr × Nat) × List ByteArray)) × (List (((Option Addr × Nat) × List ByteArray) × Int))) => [(0, .cells 73 [.lp 1 0, .own 12, .own 13, bS s102.2.2.1, bS s102.2.2.2.1, .v (.int .i64 (s102.2.2.2.2.1)), .v (.int .i64 (s102.2.2.2.2.2.1))]), (1, .cells 43 [.v (.int .i64 (s102.2.2.2.2.2.2.1)), .own 14, .v (.int .i64 (s102.2.2.2.2.2.2.2.2.1)), .v (.int .i64 (s102.2.2.2.2.2.2.2.2.2.1))]), (12, .arr 25 1 (s102.1.length) (ec c25 ((g.1)))), (13, .arr 105 2 (s102.2.1.length) (ec c105 ((g.2)))), (14, .arr 9 1 (s102.2.2.2.2.2.2.2.1.length) (es (s102.2.2.2.2.2.2.2.1)))]) 3 (fun q (s102 : List (List ByteArray) × List ((List ByteArray) × Int) × Bool × Bool × Int × Int × Int × List ByteArray × Int × Int × Int) (g : (List ((Option Addr × Nat) × List ByteArray)) × (List (((Option Addr × Nat) × List ByteArray) × Int))) => g.1.map e25 = s102.1 ∧ (∀ p ∈ g.1, P25 q p) ∧ g.2.map e105 = s102.2.1 ∧ (∀ p ∈ g.2, P105 q p)) (fun n174 H => ?_)
  refine ⟨(n174, _, X0_2, X0_3), ⟨H⟩, ⟨hE0_2, (P25.of hF0_2 hC0_2), hE0_3, (P105.of hF0_3 hC0_3)⟩, ?_⟩
  repeat refine mo1E7 ?_
  rintro q101 hq100 ⟨m0, s102, X125, X127⟩ H hrd
  obtain ⟨hE126, hin123, hE128, hin124⟩ := hrd
  obtain ⟨m103, hm0, H⟩ := IG_succ H
  dsimp only at hm0 hin123 hin124 hE126 hE128
  subst hm0
  try dsimp only at H
  refine if_st H (fun h149 H => ?_) (fun h149 H => ?_)
  ·refine ob_ck H fun h150 H => ?_
   obtain ⟨v151, hv152, H⟩ := call_st H
   refine ⟨(((s102.2.2.2.2.2.2.1, s102.2.2.2.2.2.2.2.1, s102.2.2.2.2.2.2.2.2.1, s102.2.2.2.2.2.2.2.2.2.1), s102.1, s102.2.1, s102.2.2.1, s102.2.2.2.1, s102.2.2.2.2.1, s102.2.2.2.2.2.1), s102.2.2.2.2.2.2.2.2.2.2 - 1, v151, (X125, X127)), ⟨hv152, hE126, P25.cap hin123, hE128, P105.cap hin124⟩, ⟨(rdsOk_app.2 ⟨(rdsOk_app.2 ⟨trivial, P25.rds hin123⟩), P105.rds hin124⟩)⟩, ?_⟩
   iterate 2 refine And.intro ⟨rfl⟩ ?_
   iterate 11 refine mo1E7 ?_
   intro q153 g154 hq155 hok156 hrd157
   obtain ⟨X160, X164⟩ := g154
   obtain ⟨hE161, hC158, hE165, hC162⟩ := hok156
   obtain ⟨hrd157, hF163⟩ := rdsOk_app.1 hrd157
   obtain ⟨hrd157, hF159⟩ := rdsOk_app.1 hrd157
   try dsimp only at hC158 hF159 hE161 hC162 hF163 hE165
   refine if_st H (fun h166 H => ?_) (fun h166 H => ?_)
   ·refine ob_ck H fun h167 H => ?_
    replace H := some_st H
    refine ⟨(m103, (v151.2.2.1, v151.2.2.2.1, v151.2.2.2.2.1, v151.2.2.2.2.2.1, v151.2.2.2.2.2.2.1, v151.2.2.2.2.2.2.2, v151.2.1.1, v151.2.1.2.1, v151.2.1.2.2.1, v151.2.1.2.2.2, s102.2.2.2.2.2.2.2.2.2.2 - 1), X160, X164), ⟨H, Nat.lt_succ_self _⟩, ⟨hE161, (P25.of hF159 hC158), hE165, (P105.of hF163 hC162)⟩, ⟨fun _ _ _ h => (hq155 _ _ _ (hq100 _ _ _ h))⟩, ?_⟩
    repeat refine mo1E7 ?_
    first | exact trivial | exact rfl
   ·replace H := some_st H
    dsimp only [stp, sm] at H
    refine ⟨((v151.2.2.1, v151.2.2.2.1, v151.2.2.2.2.1, v151.2.2.2.2.2.1, v151.2.2.2.2.2.2.1, v151.2.2.2.2.2.2.2, v151.2.1.1, v151.2.1.2.1, v151.2.1.2.2.1, v151.2.1.2.2.2, s102.2.2.2.2.2.2.2.2.2.2), X160, X164), ⟨H, hE161, (P25.of hF159 hC158), hE165, (P105.of hF163 hC162)⟩, ⟨fun _ _ _ h => (hq155 _ _ _ (hq100 _ _ _ h))⟩, ?_⟩
    repeat refine mo1E7 ?_
    first | exact trivial | exact rfl
  ·replace H := some_st H
   dsimp only [stp, sm] at H
   refine ⟨((s102.1, s102.2.1, s102.2.2.1, s102.2.2.2.1, s102.2.2.2.2.1, s102.2.2.2.2.2.1, s102.2.2.2.2.2.2.1, s102.2.2.2.2.2.2.2.1, s102.2.2.2.2.2.2.2.2.1, s102.2.2.2.2.2.2.2.2.2.1, s102.2.2.2.2.2.2.2.2.2.2), X125, X127), ⟨H, hE126, hin123, hE128, hin124⟩, ⟨fun _ _ _ h => (hq100 _ _ _ h)⟩, ?_⟩
   repeat refine mo1E7 ?_
   first | exact trivial | exact rfl
 ·rintro q97 hq96 ⟨v98, X177, X179⟩ ⟨H, hE178, hin175, hE180, hin176⟩
  dsimp only at H hin175 hin176 hE178 hE180
  refine R.cut_famXG H 64 [] [] [] (fun (v276 : List (List ByteArray) × List ((List ByteArray) × Int) × Bool × Bool × Int × Int × Int × List ByteArray × Int × Int × Int) (g : (List ((Option Addr × Nat) × List ByteArray)) × (List (((Option Addr × Nat) × List ByteArray) × Int))) => [(3, .v (.int .i64 (v276.2.2.2.2.2.2.2.2.2.2)))]) (fun (v276 : List (List ByteArray) × List ((List ByteArray) × Int) × Bool × Bool × Int × Int × Int × List ByteArray × Int × Int × Int) (g : (List ((Option Addr × Nat) × List ByteArray)) × (List (((Option Addr × Nat) × List ByteArray) × Int))) => [(0, .cells 73 [.lp 1 0, .own 64, .own 65, bS v276.2.2.1, bS v276.2.2.2.1, .v (.int .i64 (v276.2.2.2.2.1)), .v (.int .i64 (v276.2.2.2.2.2.1))]), (1, .cells 43 [.v (.int .i64 (v276.2.2.2.2.2.2.1)), .own 66, .v (.int .i64 (v276.2.2.2.2.2.2.2.2.1)), .v (.int .i64 (v276.2.2.2.2.2.2.2.2.2.1))]), (64, .arr 25 1 (v276.1.length) (ec c25 ((g.1)))), (65, .arr 105 2 (v276.2.1.length) (ec c105 ((g.2)))), (66, .arr 9 1 (v276.2.2.2.2.2.2.2.1.length) (es (v276.2.2.2.2.2.2.2.1)))]) [] 3 (fun q (v276 : List (List ByteArray) × List ((List ByteArray) × Int) × Bool × Bool × Int × Int × Int × List ByteArray × Int × Int × Int) (g : (List ((Option Addr × Nat) × List ByteArray)) × (List (((Option Addr × Nat) × List ByteArray) × Int))) => g.1.map e25 = v276.1 ∧ (∀ p ∈ g.1, P25 q p) ∧ g.2.map e105 = v276.2.1 ∧ (∀ p ∈ g.2, P105 q p)) (fun H => ?_)
  refine And.intro ?_ ?_
  ·refine R.loop_famXG (bind_st H) [0] [] [] (fun _ => fun (s280 : List (List ByteArray) × List ((List ByteArray) × Int) × Bool × Bool × Int × Int × Int × List ByteArray × Int × Int × Int) (g : (List ((Option Addr × Nat) × List ByteArray)) × (List (((Option Addr × Nat) × List ByteArray) × Int))) => [(3, .v (.int .i64 (s280.2.2.2.2.2.2.2.2.2.2)))]) (fun _ => fun (s280 : List (List ByteArray) × List ((List ByteArray) × Int) × Bool × Bool × Int × Int × Int × List ByteArray × Int × Int × Int) (g : (List ((Option Addr × Nat) × List ByteArray)) × (List (((Option Addr × Nat) × List ByteArray) × Int))) => [(0, .cells 73 [.lp 1 0, .own 40, .own 41, bS s280.2.2.1, bS s280.2.2.2.1, .v (.int .i64 (s280.2.2.2.2.1)), .v (.int .i64 (s280.2.2.2.2.2.1))]), (1, .cells 43 [.v (.int .i64 (s280.2.2.2.2.2.2.1)), .own 42, .v (.int .i64 (s280.2.2.2.2.2.2.2.2.1)), .v (.int .i64 (s280.2.2.2.2.2.2.2.2.2.1))]), (40, .arr 25 1 (s280.1.length) (ec c25 ((g.1)))), (41, .arr 105 2 (s280.2.1.length) (ec c105 ((g.2)))), (42, .arr 9 1 (s280.2.2.2.2.2.2.2.1.length) (es (s280.2.2.2.2.2.2.2.1)))]) 3 (fun q (s280 : List (List ByteArray) × List ((List ByteArray) × Int) × Bool × Bool × Int × Int × Int × List ByteArray × Int × Int × Int) (g : (List ((Option Addr × Nat) × List ByteArray)) × (List (((Option Addr × Nat) × List ByteArray) × Int))) => g.1.map e25 = s280.1 ∧ (∀ p ∈ g.1, P25 q p) ∧ g.2.map e105 = s280.2.1 ∧ (∀ p ∈ g.2, P105 q p)) (fun n352 H => ?_)
   refine ⟨(n352, _, X177, X179), ⟨H⟩, ⟨hE178, hin175, hE180, hin176⟩, ?_⟩
   repeat refine mo1E7 ?_
   rintro q279 hq278 ⟨m0, s280, X303, X305⟩ H hrd
   obtain ⟨hE304, hin301, hE306, hin302⟩ := hrd
   obtain ⟨m281, hm0, H⟩ := IG_succ H
   dsimp only at hm0 hin301 hin302 hE304 hE306
   subst hm0
   try dsimp only at H
   refine if_st H (fun h327 H => ?_) (fun h327 H => ?_)
   ·refine ob_ck H fun h328 H => ?_
    obtain ⟨v329, hv330, H⟩ := call_st H
    refine ⟨(((s280.2.2.2.2.2.2.1, s280.2.2.2.2.2.2.2.1, s280.2.2.2.2.2.2.2.2.1, s280.2.2.2.2.2.2.2.2.2.1), s280.1, s280.2.1, s280.2.2.1, s280.2.2.2.1, s280.2.2.2.2.1, s280.2.2.2.2.2.1), s280.2.2.2.2.2.2.2.2.2.2 - 1, v329, (X303, X305)), ⟨hv330, hE304, P25.cap hin301, hE306, P105.cap hin302⟩, ⟨(rdsOk_app.2 ⟨(rdsOk_app.2 ⟨trivial, P25.rds hin301⟩), P105.rds hin302⟩)⟩, ?_⟩
    iterate 2 refine And.intro ⟨rfl⟩ ?_
    iterate 11 refine mo1E7 ?_
    intro q331 g332 hq333 hok334 hrd335
    obtain ⟨X338, X342⟩ := g332
    obtain ⟨hE339, hC336, hE343, hC340⟩ := hok334
    obtain ⟨hrd335, hF341⟩ := rdsOk_app.1 hrd335
    obtain ⟨hrd335, hF337⟩ := rdsOk_app.1 hrd335
    try dsimp only at hC336 hF337 hE339 hC340 hF341 hE343
    refine if_st H (fun h344 H => ?_) (fun h344 H => ?_)
    ·refine ob_ck H fun h345 H => ?_
     replace H := some_st H
     refine ⟨(m281, (v329.2.2.1, v329.2.2.2.1, v329.2.2.2.2.1, v329.2.2.2.2.2.1, v329.2.2.2.2.2.2.1, v329.2.2.2.2.2.2.2, v329.2.1.1, v329.2.1.2.1, v329.2.1.2.2.1, v329.2.1.2.2.2, s280.2.2.2.2.2.2.2.2.2.2 - 1), X338, X342), ⟨H, Nat.lt_succ_self _⟩, ⟨hE339, (P25.of hF337 hC336), hE343, (P105.of hF341 hC340)⟩, ⟨fun _ _ _ h => (hq333 _ _ _ (hq278 _ _ _ h))⟩, ?_⟩
     repeat refine mo1E7 ?_
     first | exact trivial | exact rfl
    ·replace H := some_st H
     dsimp only [stp, sm] at H
     refine ⟨((v329.2.2.1, v329.2.2.2.1, v329.2.2.2.2.1, v329.2.2.2.2.2.1, v329.2.2.2.2.2.2.1, v329.2.2.2.2.2.2.2, v329.2.1.1, v329.2.1.2.1, v329.2.1.2.2.1, v329.2.1.2.2.2, s280.2.2.2.2.2.2.2.2.2.2), X338, X342), ⟨H, hE339, (P25.of hF337 hC336), hE343, (P105.of hF341 hC340)⟩, ⟨fun _ _ _ h => (hq333 _ _ _ (hq278 _ _ _ h))⟩, ?_⟩
     repeat refine mo1E7 ?_
     first | exact trivial | exact rfl
   ·replace H := some_st H
    dsimp only [stp, sm] at H
    refine ⟨((s280.1, s280.2.1, s280.2.2.1, s280.2.2.2.1, s280.2.2.2.2.1, s280.2.2.2.2.2.1, s280.2.2.2.2.2.2.1, s280.2.2.2.2.2.2.2.1, s280.2.2.2.2.2.2.2.2.1, s280.2.2.2.2.2.2.2.2.2.1, s280.2.2.2.2.2.2.2.2.2.2), X303, X305), ⟨H, hE304, hin301, hE306, hin302⟩, ⟨fun _ _ _ h => (hq278 _ _ _ h)⟩, ?_⟩
    repeat refine mo1E7 ?_
    first | exact trivial | exact rfl
  ·rintro q275 hq274 ⟨v276, X355, X357⟩ ⟨H, hE356, hin353, hE358, hin354⟩
   dsimp only at H hin353 hin354 hE356 hE358
   have hfin := fin_st H
   subst hfin
   refine ⟨(X355, X357), ⟨⟨hE356, P25.cap hin353, hE358, P105.cap hin354⟩⟩, ⟨(rdsOk_app.2 ⟨(rdsOk_app.2 ⟨trivial, P25.rds hin353⟩), P105.rds hin354⟩)⟩, ?_⟩
   repeat refine mo1E7 ?_
   first | exact trivial | exact rfl
noncomputable def g72 (a0 : ((Int × List ByteArray × Int × Int) × List (List ByteArray) × List ((List ByteArray) × Int) × Bool × Bool × Int × Int)) : Option (Int × ((Int × List ByteArray × Int × Int) × List (List ByteArray) × List ((List ByteArray) × Int) × Bool × Bool × Int × Int)) :=
 (g13 (a0.1.1, a0.1.2.1, a0.1.2.2.1, a0.1.2.2.2)).bind fun v359 =>
 (g20 (a0.1.1, a0.1.2.1, a0.1.2.2.1, a0.1.2.2.2)).bind fun v361 =>
 jn (α := _) (β := List (List ByteArray) × List ((List ByteArray) × Int) × Bool × Bool × Int × Int × Int × List ByteArray × Int × Int × Int) (fun k455 =>
   (loopO (σ := List (List ByteArray) × List ((List ByteArray) × Int) × Bool × Bool × Int × Int × Int × List ByteArray × Int × Int × Int) (ρ := List (List ByteArray) × List ((List ByteArray) × Int) × Bool × Bool × Int × Int × Int × List ByteArray × Int × Int × Int) (fun s458 =>
     if s458.2.2.2.2.2.2.2.2.2.2 < v361 then
      (
       (g102 ((s458.2.2.2.2.2.2.1, s458.2.2.2.2.2.2.2.1, s458.2.2.2.2.2.2.2.2.1, s458.2.2.2.2.2.2.2.2.2.1), s458.1, s458.2.1, s458.2.2.1, s458.2.2.2.1, s458.2.2.2.2.1, s458.2.2.2.2.2.1) s458.2.2.2.2.2.2.2.2.2.2).bind fun v504 =>
       if ¬ (v504.1 = true) then
        (
         ck (inR .i64 (s458.2.2.2.2.2.2.2.2.2.2 + 1)) <|
         some (.go (v504.2.2.1, v504.2.2.2.1, v504.2.2.2.2.1, v504.2.2.2.2.2.1, v504.2.2.2.2.2.2.1, v504.2.2.2.2.2.2.2, v504.2.1.1, v504.2.1.2.1, v504.2.1.2.2.1, v504.2.1.2.2.2, s458.2.2.2.2.2.2.2.2.2.2 + 1))
        )
       else
        some (.out (v504.2.2.1, v504.2.2.2.1, v504.2.2.2.2.1, v504.2.2.2.2.2.1, v504.2.2.2.2.2.2.1, v504.2.2.2.2.2.2.2, v504.2.1.1, v504.2.1.2.1, v504.2.1.2.2.1, v504.2.1.2.2.2, s458.2.2.2.2.2.2.2.2.2.2))
      )
     else
      some (.out (s458.1, s458.2.1, s458.2.2.1, s458.2.2.2.1, s458.2.2.2.2.1, s458.2.2.2.2.2.1, s458.2.2.2.2.2.2.1, s458.2.2.2.2.2.2.2.1, s458.2.2.2.2.2.2.2.2.1, s458.2.2.2.2.2.2.2.2.2.1, s458.2.2.2.2.2.2.2.2.2.2))
    ) (a0.2.1, a0.2.2.1, a0.2.2.2.1, a0.2.2.2.2.1, a0.2.2.2.2.2.1, a0.2.2.2.2.2.2, a0.1.1, a0.1.2.1, a0.1.2.2.1, a0.1.2.2.2, v359)).bind fun o502 =>
    k455 (o502.1, o502.2.1, o502.2.2.1, o502.2.2.2.1, o502.2.2.2.2.1, o502.2.2.2.2.2.1, o502.2.2.2.2.2.2.1, o502.2.2.2.2.2.2.2.1, o502.2.2.2.2.2.2.2.2.1, o502.2.2.2.2.2.2.2.2.2.1, o502.2.2.2.2.2.2.2.2.2.2)
 ) (fun v454 =>
  jn (α := _) (β := List (List ByteArray) × List ((List ByteArray) × Int) × Bool × Bool × Int × Int × Int × List ByteArray × Int × Int × Int) (fun k626 =>
    (loopO (σ := List (List ByteArray) × List ((List ByteArray) × Int) × Bool × Bool × Int × Int × Int × List ByteArray × Int × Int × Int) (ρ := List (List ByteArray) × List ((List ByteArray) × Int) × Bool × Bool × Int × Int × Int × List ByteArray × Int × Int × Int) (fun s629 =>
      if s629.2.2.2.2.2.2.2.2.2.2 < v361 then
       (
        (g102 ((s629.2.2.2.2.2.2.1, s629.2.2.2.2.2.2.2.1, s629.2.2.2.2.2.2.2.2.1, s629.2.2.2.2.2.2.2.2.2.1), s629.1, s629.2.1, s629.2.2.1, s629.2.2.2.1, s629.2.2.2.2.1, s629.2.2.2.2.2.1) s629.2.2.2.2.2.2.2.2.2.2).bind fun v675 =>
        if v675.1 = true then
         (
          ck (inR .i64 (s629.2.2.2.2.2.2.2.2.2.2 + 1)) <|
          some (.go (v675.2.2.1, v675.2.2.2.1, v675.2.2.2.2.1, v675.2.2.2.2.2.1, v675.2.2.2.2.2.2.1, v675.2.2.2.2.2.2.2, v675.2.1.1, v675.2.1.2.1, v675.2.1.2.2.1, v675.2.1.2.2.2, s629.2.2.2.2.2.2.2.2.2.2 + 1))
         )
        else
         some (.out (v675.2.2.1, v675.2.2.2.1, v675.2.2.2.2.1, v675.2.2.2.2.2.1, v675.2.2.2.2.2.2.1, v675.2.2.2.2.2.2.2, v675.2.1.1, v675.2.1.2.1, v675.2.1.2.2.1, v675.2.1.2.2.2, s629.2.2.2.2.2.2.2.2.2.2))
       )
      else
       some (.out (s629.1, s629.2.1, s629.2.2.1, s629.2.2.2.1, s629.2.2.2.2.1, s629.2.2.2.2.2.1, s629.2.2.2.2.2.2.1, s629.2.2.2.2.2.2.2.1, s629.2.2.2.2.2.2.2.2.1, s629.2.2.2.2.2.2.2.2.2.1, s629.2.2.2.2.2.2.2.2.2.2))
     ) (v454.1, v454.2.1, v454.2.2.1, v454.2.2.2.1, v454.2.2.2.2.1, v454.2.2.2.2.2.1, v454.2.2.2.2.2.2.1, v454.2.2.2.2.2.2.2.1, v454.2.2.2.2.2.2.2.2.1, v454.2.2.2.2.2.2.2.2.2.1, v454.2.2.2.2.2.2.2.2.2.2)).bind fun o673 =>
     k626 (o673.1, o673.2.1, o673.2.2.1, o673.2.2.2.1, o673.2.2.2.2.1, o673.2.2.2.2.2.1, o673.2.2.2.2.2.2.1, o673.2.2.2.2.2.2.2.1, o673.2.2.2.2.2.2.2.2.1, o673.2.2.2.2.2.2.2.2.2.1, o673.2.2.2.2.2.2.2.2.2.2)
  ) (fun v625 =>
   some (v625.2.2.2.2.2.2.2.2.2.2, ((v625.2.2.2.2.2.2.1, v625.2.2.2.2.2.2.2.1, v625.2.2.2.2.2.2.2.2.1, v625.2.2.2.2.2.2.2.2.2.1), v625.1, v625.2.1, v625.2.2.1, v625.2.2.2.1, v625.2.2.2.2.1, v625.2.2.2.2.2.1))
  )
 )
noncomputable def k72 : Eng.CS := { f := 72, calm := false, more := 8, ι := ((Int × List ByteArray × Int × Int) × List (List ByteArray) × List ((List ByteArray) × Int) × Bool × Bool × Int × Int) × (Int × ((Int × List ByteArray × Int × Int) × List (List ByteArray) × List ((List ByteArray) × Int) × Bool × Bool × Int × Int)) × (List ((Option Addr × Nat) × List ByteArray) × List (((Option Addr × Nat) × List ByteArray) × Int)), ok := fun i => g72 i.1 = some i.2.1 ∧ i.2.2.1.map e25 = i.1.2.1 ∧ (∀ p ∈ i.2.2.1, cap25 p) ∧ i.2.2.2.map e105 = i.1.2.2.1 ∧ (∀ p ∈ i.2.2.2, cap105 p), rds := fun i => [] ++ (i.2.2.1).flatMap R25 ++ (i.2.2.2).flatMap R105, args := fun i => [.w (.lp 0 0)], res := fun _ => .bad, rn := [(100001, 1, 9, 1), (100000, 1, 25, 1), (100000, 2, 105, 2)], keys := 5, L := fun i => [(0, .cells 73 [.lp 1 0, .own 2, .own 3, bS i.1.2.2.2.1, bS i.1.2.2.2.2.1, .v (.int .i64 (i.1.2.2.2.2.2.1)), .v (.int .i64 (i.1.2.2.2.2.2.2))]), (1, .cells 43 [.v (.int .i64 (i.1.1.1)), .own 4, .v (.int .i64 (i.1.1.2.2.1)), .v (.int .i64 (i.1.1.2.2.2))]), (4, .arr 9 1 i.1.1.2.1.length (es i.1.1.2.1)), (2, .arr 25 1 i.1.2.1.length (ec c25 i.2.2.1)), (3, .arr 105 2 i.1.2.2.1.length (ec c105 i.2.2.2))], gr := true, γ := (List ((Option Addr × Nat) × List ByteArray)) × (List (((Option Addr × Nat) × List ByteArray) × Int)), resG := fun i _ => .v (.int .i64 (i.2.1.1)), LG := fun i g => [(0, .cells 73 [.lp 1 0, .own 5, .own 6, bS i.2.1.2.2.2.2.1, bS i.2.1.2.2.2.2.2.1, .v (.int .i64 (i.2.1.2.2.2.2.2.2.1)), .v (.int .i64 (i.2.1.2.2.2.2.2.2.2))]), (1, .cells 43 [.v (.int .i64 (i.2.1.2.1.1)), .own 7, .v (.int .i64 (i.2.1.2.1.2.2.1)), .v (.int .i64 (i.2.1.2.1.2.2.2))]), (7, .arr 9 1 i.2.1.2.1.2.1.length (es i.2.1.2.1.2.1)), (5, .arr 25 1 i.2.1.2.2.1.length (ec c25 g.1)), (6, .arr 105 2 i.2.1.2.2.2.1.length (ec c105 g.2))], okG := fun i g => g.1.map e25 = i.2.1.2.2.1 ∧ (∀ p ∈ g.1, cap25 p) ∧ g.2.map e105 = i.2.1.2.2.2.1 ∧ (∀ p ∈ g.2, cap105 p), rdsG := fun i g => [] ++ (g.1).flatMap R25 ++ (g.2).flatMap R105, fzr := [] }
set_option maxRecDepth 8000 in
set_option maxHeartbeats 4000000 in
theorem k72_ok : CSOk Try.prog k72 := by
 refine R.cspecG Try.func72 nm72 rfl rfl (fun _ => rfl) ?_
 rintro ⟨a0, r, ⟨X0_2, X0_3⟩⟩ ⟨hok, hE0_2, hC0_2, hE0_3, hC0_3⟩ q hrds args hargs
 obtain ⟨hrds, hF0_3⟩ := rdsOk_app.1 hrds
 obtain ⟨hrds, hF0_2⟩ := rdsOk_app.1 hrds
 dsimp only at hC0_2 hF0_2 hE0_2 hC0_3 hF0_3 hE0_3
 dsimp only [k72] at hargs ⊢
 match args, hargs with
 | [_], hargs =>
 obtain ⟨rfl, _⟩ := hargs
 refine ⟨envC [k13, k20, k102] false [(72, 4), (72, 6)], 6, envC_ok (css_cons ⟨fun _ => k13_ok, fun h => (by cases h)⟩ (css_cons ⟨fun _ => k20_ok, fun h => (by cases h)⟩ (css_cons ⟨fun h => (by cases h), fun _ => k102_ok⟩ (css_nil)))), ?_⟩
 have H : Gives (g72 a0) (fun a => a = r) := ⟨r, hok, rfl⟩
 unfold g72 at H
 clear hok
 refine And.intro ⟨by kernel_rfl⟩ ?_
 obtain ⟨v359, hv360, H⟩ := call_st H
 refine ⟨((a0.1.1, a0.1.2.1, a0.1.2.2.1, a0.1.2.2.2), v359), ⟨hv360⟩, ⟨trivial⟩, ?_⟩
 iterate 4 refine mo1E7 ?_
 obtain ⟨v361, hv362, H⟩ := call_st H
 refine ⟨((a0.1.1, a0.1.2.1, a0.1.2.2.1, a0.1.2.2.2), v361), ⟨hv362⟩, ⟨trivial⟩, ?_⟩
 iterate 4 refine mo1E7 ?_
 refine R.cut_famXG H 43 [0, 4] [] [] (fun (v454 : List (List ByteArray) × List ((List ByteArray) × Int) × Bool × Bool × Int × Int × Int × List ByteArray × Int × Int × Int) (g : (List ((Option Addr × Nat) × List ByteArray)) × (List (((Option Addr × Nat) × List ByteArray) × Int))) => [(3, .v (.int .i64 (v454.2.2.2.2.2.2.2.2.2.2)))]) (fun (v454 : List (List ByteArray) × List ((List ByteArray) × Int) × Bool × Bool × Int × Int × Int × List ByteArray × Int × Int × Int) (g : (List ((Option Addr × Nat) × List ByteArray)) × (List (((Option Addr × Nat) × List ByteArray) × Int))) => [(0, .cells 73 [.lp 1 0, .own 43, .own 44, bS v454.2.2.1, bS v454.2.2.2.1, .v (.int .i64 (v454.2.2.2.2.1)), .v (.int .i64 (v454.2.2.2.2.2.1))]), (1, .cells 43 [.v (.int .i64 (v454.2.2.2.2.2.2.1)), .own 45, .v (.int .i64 (v454.2.2.2.2.2.2.2.2.1)), .v (.int .i64 (v454.2.2.2.2.2.2.2.2.2.1))]), (43, .arr 25 1 (v454.1.length) (ec c25 ((g.1)))), (44, .arr 105 2 (v454.2.1.length) (ec c105 ((g.2)))), (45, .arr 9 1 (v454.2.2.2.2.2.2.2.1.length) (es (v454.2.2.2.2.2.2.2.1)))]) [] 3 (fun q (v454 : List (List ByteArray) × List ((List ByteArray) × Int) × Bool × Bool × Int × Int × Int × List ByteArray × Int × Int × Int) (g : (List ((Option Addr × Nat) × List ByteArray)) × (List (((Option Addr × Nat) × List ByteArray) × Int))) => g.1.map e25 = v454.1 ∧ (∀ p ∈ g.1, P25 q p) ∧ g.2.map e105 = v454.2.1 ∧ (∀ p ∈ g.2, P105 q p)) (fun H => ?_)
 refine And.intro ?_ ?_
 ·refine R.loop_famXG (bind_st H) [0, 4] [] [] (fun _ => fun (s458 : List (List ByteArray) × List ((List ByteArray) × Int) × Bool × Bool × Int × Int × Int × List ByteArray × Int × Int × Int) (g : (List ((Option Addr × Nat) × List ByteArray)) × (List (((Option Addr × Nat) × List ByteArray) × Int))) => [(3, .v (.int .i64 (s458.2.2.2.2.2.2.2.2.2.2)))]) (fun _ => fun (s458 : List (List ByteArray) × List ((List ByteArray) × Int) × Bool × Bool × Int × Int × Int × List ByteArray × Int × Int × Int) (g : (List ((Option Addr × Nat) × List ByteArray)) × (List (((Option Addr × Nat) × List ByteArray) × Int))) => [(0, .cells 73 [.lp 1 0, .own 18, .own 19, bS s458.2.2.1, bS s458.2.2.2.1, .v (.int .i64 (s458.2.2.2.2.1)), .v (.int .i64 (s458.2.2.2.2.2.1))]), (1, .cells 43 [.v (.int .i64 (s458.2.2.2.2.2.2.1)), .own 20, .v (.int .i64 (s458.2.2.2.2.2.2.2.2.1)), .v (.int .i64 (s458.2.2.2.2.2.2.2.2.2.1))]), (18, .arr 25 1 (s458.1.length) (ec c25 ((g.1)))), (19, .arr 105 2 (s458.2.1.length) (ec c105 ((g.2)))), (20, .arr 9 1 (s458.2.2.2.2.2.2.2.1.length) (es (s458.2.2.2.2.2.2.2.1)))]) 3 (fun q (s458 : List (List ByteArray) × List ((List ByteArray) × Int) × Bool × Bool × Int × Int × Int × List ByteArray × Int × Int × Int) (g : (List ((Option Addr × Nat) × List ByteArray)) × (List (((Option Addr × Nat) × List ByteArray) × Int))) => g.1.map e25 = s458.1 ∧ (∀ p ∈ g.1, P25 q p) ∧ g.2.map e105 = s458.2.1 ∧ (∀ p ∈ g.2, P105 q p)) (fun n527 H => ?_)
  refine ⟨(n527, _, X0_2, X0_3), ⟨H⟩, ⟨hE0_2, (P25.of hF0_2 hC0_2), hE0_3, (P105.of hF0_3 hC0_3)⟩, ?_⟩
  repeat refine mo1E7 ?_
  rintro q457 hq456 ⟨m0, s458, X480, X482⟩ H hrd
  obtain ⟨hE481, hin478, hE483, hin479⟩ := hrd
  obtain ⟨m459, hm0, H⟩ := IG_succ H
  dsimp only at hm0 hin478 hin479 hE481 hE483
  subst hm0
  try dsimp only at H
  refine if_st H (fun h503 H => ?_) (fun h503 H => ?_)
  ·obtain ⟨v504, hv505, H⟩ := call_st H
   refine ⟨(((s458.2.2.2.2.2.2.1, s458.2.2.2.2.2.2.2.1, s458.2.2.2.2.2.2.2.2.1, s458.2.2.2.2.2.2.2.2.2.1), s458.1, s458.2.1, s458.2.2.1, s458.2.2.2.1, s458.2.2.2.2.1, s458.2.2.2.2.2.1), s458.2.2.2.2.2.2.2.2.2.2, v504, (X480, X482)), ⟨hv505, hE481, P25.cap hin478, hE483, P105.cap hin479⟩, ⟨(rdsOk_app.2 ⟨(rdsOk_app.2 ⟨trivial, P25.rds hin478⟩), P105.rds hin479⟩)⟩, ?_⟩
   iterate 2 refine And.intro ⟨rfl⟩ ?_
   iterate 11 refine mo1E7 ?_
   intro q506 g507 hq508 hok509 hrd510
   obtain ⟨X513, X517⟩ := g507
   obtain ⟨hE514, hC511, hE518, hC515⟩ := hok509
   obtain ⟨hrd510, hF516⟩ := rdsOk_app.1 hrd510
   obtain ⟨hrd510, hF512⟩ := rdsOk_app.1 hrd510
   try dsimp only at hC511 hF512 hE514 hC515 hF516 hE518
   refine if_st H (fun h519 H => ?_) (fun h519 H => ?_)
   ·refine ob_ck H fun h520 H => ?_
    replace H := some_st H
    refine ⟨(m459, (v504.2.2.1, v504.2.2.2.1, v504.2.2.2.2.1, v504.2.2.2.2.2.1, v504.2.2.2.2.2.2.1, v504.2.2.2.2.2.2.2, v504.2.1.1, v504.2.1.2.1, v504.2.1.2.2.1, v504.2.1.2.2.2, s458.2.2.2.2.2.2.2.2.2.2 + 1), X513, X517), ⟨H, Nat.lt_succ_self _⟩, ⟨hE514, (P25.of hF512 hC511), hE518, (P105.of hF516 hC515)⟩, ⟨fun _ _ _ h => (hq508 _ _ _ (hq456 _ _ _ h))⟩, ?_⟩
    repeat refine mo1E7 ?_
    first | exact trivial | exact rfl
   ·replace H := some_st H
    dsimp only [stp, sm] at H
    refine ⟨((v504.2.2.1, v504.2.2.2.1, v504.2.2.2.2.1, v504.2.2.2.2.2.1, v504.2.2.2.2.2.2.1, v504.2.2.2.2.2.2.2, v504.2.1.1, v504.2.1.2.1, v504.2.1.2.2.1, v504.2.1.2.2.2, s458.2.2.2.2.2.2.2.2.2.2), X513, X517), ⟨H, hE514, (P25.of hF512 hC511), hE518, (P105.of hF516 hC515)⟩, ⟨fun _ _ _ h => (hq508 _ _ _ (hq456 _ _ _ h))⟩, ?_⟩
    repeat refine mo1E7 ?_
    first | exact trivial | exact rfl
  ·replace H := some_st H
   dsimp only [stp, sm] at H
   refine ⟨((s458.1, s458.2.1, s458.2.2.1, s458.2.2.2.1, s458.2.2.2.2.1, s458.2.2.2.2.2.1, s458.2.2.2.2.2.2.1, s458.2.2.2.2.2.2.2.1, s458.2.2.2.2.2.2.2.2.1, s458.2.2.2.2.2.2.2.2.2.1, s458.2.2.2.2.2.2.2.2.2.2), X480, X482), ⟨H, hE481, hin478, hE483, hin479⟩, ⟨fun _ _ _ h => (hq456 _ _ _ h)⟩, ?_⟩
   repeat refine mo1E7 ?_
   first | exact trivial | exact rfl
 ·rintro q453 hq452 ⟨v454, X530, X532⟩ ⟨H, hE531, hin528, hE533, hin529⟩
  dsimp only at H hin528 hin529 hE531 hE533
  refine R.cut_famXG H 70 [] [] [] (fun (v625 : List (List ByteArray) × List ((List ByteArray) × Int) × Bool × Bool × Int × Int × Int × List ByteArray × Int × Int × Int) (g : (List ((Option Addr × Nat) × List ByteArray)) × (List (((Option Addr × Nat) × List ByteArray) × Int))) => [(3, .v (.int .i64 (v625.2.2.2.2.2.2.2.2.2.2)))]) (fun (v625 : List (List ByteArray) × List ((List ByteArray) × Int) × Bool × Bool × Int × Int × Int × List ByteArray × Int × Int × Int) (g : (List ((Option Addr × Nat) × List ByteArray)) × (List (((Option Addr × Nat) × List ByteArray) × Int))) => [(0, .cells 73 [.lp 1 0, .own 70, .own 71, bS v625.2.2.1, bS v625.2.2.2.1, .v (.int .i64 (v625.2.2.2.2.1)), .v (.int .i64 (v625.2.2.2.2.2.1))]), (1, .cells 43 [.v (.int .i64 (v625.2.2.2.2.2.2.1)), .own 72, .v (.int .i64 (v625.2.2.2.2.2.2.2.2.1)), .v (.int .i64 (v625.2.2.2.2.2.2.2.2.2.1))]), (70, .arr 25 1 (v625.1.length) (ec c25 ((g.1)))), (71, .arr 105 2 (v625.2.1.length) (ec c105 ((g.2)))), (72, .arr 9 1 (v625.2.2.2.2.2.2.2.1.length) (es (v625.2.2.2.2.2.2.2.1)))]) [] 3 (fun q (v625 : List (List ByteArray) × List ((List ByteArray) × Int) × Bool × Bool × Int × Int × Int × List ByteArray × Int × Int × Int) (g : (List ((Option Addr × Nat) × List ByteArray)) × (List (((Option Addr × Nat) × List ByteArray) × Int))) => g.1.map e25 = v625.1 ∧ (∀ p ∈ g.1, P25 q p) ∧ g.2.map e105 = v625.2.1 ∧ (∀ p ∈ g.2, P105 q p)) (fun H => ?_)
  refine And.intro ?_ ?_
  ·refine R.loop_famXG (bind_st H) [0, 4] [] [] (fun _ => fun (s629 : List (List ByteArray) × List ((List ByteArray) × Int) × Bool × Bool × Int × Int × Int × List ByteArray × Int × Int × Int) (g : (List ((Option Addr × Nat) × List ByteArray)) × (List (((Option Addr × Nat) × List ByteArray) × Int))) => [(3, .v (.int .i64 (s629.2.2.2.2.2.2.2.2.2.2)))]) (fun _ => fun (s629 : List (List ByteArray) × List ((List ByteArray) × Int) × Bool × Bool × Int × Int × Int × List ByteArray × Int × Int × Int) (g : (List ((Option Addr × Nat) × List ByteArray)) × (List (((Option Addr × Nat) × List ByteArray) × Int))) => [(0, .cells 73 [.lp 1 0, .own 46, .own 47, bS s629.2.2.1, bS s629.2.2.2.1, .v (.int .i64 (s629.2.2.2.2.1)), .v (.int .i64 (s629.2.2.2.2.2.1))]), (1, .cells 43 [.v (.int .i64 (s629.2.2.2.2.2.2.1)), .own 48, .v (.int .i64 (s629.2.2.2.2.2.2.2.2.1)), .v (.int .i64 (s629.2.2.2.2.2.2.2.2.2.1))]), (46, .arr 25 1 (s629.1.length) (ec c25 ((g.1)))), (47, .arr 105 2 (s629.2.1.length) (ec c105 ((g.2)))), (48, .arr 9 1 (s629.2.2.2.2.2.2.2.1.length) (es (s629.2.2.2.2.2.2.2.1)))]) 3 (fun q (s629 : List (List ByteArray) × List ((List ByteArray) × Int) × Bool × Bool × Int × Int × Int × List ByteArray × Int × Int × Int) (g : (List ((Option Addr × Nat) × List ByteArray)) × (List (((Option Addr × Nat) × List ByteArray) × Int))) => g.1.map e25 = s629.1 ∧ (∀ p ∈ g.1, P25 q p) ∧ g.2.map e105 = s629.2.1 ∧ (∀ p ∈ g.2, P105 q p)) (fun n698 H => ?_)
   refine ⟨(n698, _, X530, X532), ⟨H⟩, ⟨hE531, hin528, hE533, hin529⟩, ?_⟩
   repeat refine mo1E7 ?_
   rintro q628 hq627 ⟨m0, s629, X651, X653⟩ H hrd
   obtain ⟨hE652, hin649, hE654, hin650⟩ := hrd
   obtain ⟨m630, hm0, H⟩ := IG_succ H
   dsimp only at hm0 hin649 hin650 hE652 hE654
   subst hm0
   try dsimp only at H
   refine if_st H (fun h674 H => ?_) (fun h674 H => ?_)
   ·obtain ⟨v675, hv676, H⟩ := call_st H
    refine ⟨(((s629.2.2.2.2.2.2.1, s629.2.2.2.2.2.2.2.1, s629.2.2.2.2.2.2.2.2.1, s629.2.2.2.2.2.2.2.2.2.1), s629.1, s629.2.1, s629.2.2.1, s629.2.2.2.1, s629.2.2.2.2.1, s629.2.2.2.2.2.1), s629.2.2.2.2.2.2.2.2.2.2, v675, (X651, X653)), ⟨hv676, hE652, P25.cap hin649, hE654, P105.cap hin650⟩, ⟨(rdsOk_app.2 ⟨(rdsOk_app.2 ⟨trivial, P25.rds hin649⟩), P105.rds hin650⟩)⟩, ?_⟩
    iterate 2 refine And.intro ⟨rfl⟩ ?_
    iterate 11 refine mo1E7 ?_
    intro q677 g678 hq679 hok680 hrd681
    obtain ⟨X684, X688⟩ := g678
    obtain ⟨hE685, hC682, hE689, hC686⟩ := hok680
    obtain ⟨hrd681, hF687⟩ := rdsOk_app.1 hrd681
    obtain ⟨hrd681, hF683⟩ := rdsOk_app.1 hrd681
    try dsimp only at hC682 hF683 hE685 hC686 hF687 hE689
    refine if_st H (fun h690 H => ?_) (fun h690 H => ?_)
    ·refine ob_ck H fun h691 H => ?_
     replace H := some_st H
     refine ⟨(m630, (v675.2.2.1, v675.2.2.2.1, v675.2.2.2.2.1, v675.2.2.2.2.2.1, v675.2.2.2.2.2.2.1, v675.2.2.2.2.2.2.2, v675.2.1.1, v675.2.1.2.1, v675.2.1.2.2.1, v675.2.1.2.2.2, s629.2.2.2.2.2.2.2.2.2.2 + 1), X684, X688), ⟨H, Nat.lt_succ_self _⟩, ⟨hE685, (P25.of hF683 hC682), hE689, (P105.of hF687 hC686)⟩, ⟨fun _ _ _ h => (hq679 _ _ _ (hq627 _ _ _ h))⟩, ?_⟩
     repeat refine mo1E7 ?_
     first | exact trivial | exact rfl
    ·replace H := some_st H
     dsimp only [stp, sm] at H
     refine ⟨((v675.2.2.1, v675.2.2.2.1, v675.2.2.2.2.1, v675.2.2.2.2.2.1, v675.2.2.2.2.2.2.1, v675.2.2.2.2.2.2.2, v675.2.1.1, v675.2.1.2.1, v675.2.1.2.2.1, v675.2.1.2.2.2, s629.2.2.2.2.2.2.2.2.2.2), X684, X688), ⟨H, hE685, (P25.of hF683 hC682), hE689, (P105.of hF687 hC686)⟩, ⟨fun _ _ _ h => (hq679 _ _ _ (hq627 _ _ _ h))⟩, ?_⟩
     repeat refine mo1E7 ?_
     first | exact trivial | exact rfl
   ·replace H := some_st H
    dsimp only [stp, sm] at H
    refine ⟨((s629.1, s629.2.1, s629.2.2.1, s629.2.2.2.1, s629.2.2.2.2.1, s629.2.2.2.2.2.1, s629.2.2.2.2.2.2.1, s629.2.2.2.2.2.2.2.1, s629.2.2.2.2.2.2.2.2.1, s629.2.2.2.2.2.2.2.2.2.1, s629.2.2.2.2.2.2.2.2.2.2), X651, X653), ⟨H, hE652, hin649, hE654, hin650⟩, ⟨fun _ _ _ h => (hq627 _ _ _ h)⟩, ?_⟩
    repeat refine mo1E7 ?_
    first | exact trivial | exact rfl
  ·rintro q624 hq623 ⟨v625, X701, X703⟩ ⟨H, hE702, hin699, hE704, hin700⟩
   dsimp only at H hin699 hin700 hE702 hE704
   have hfin := fin_st H
   subst hfin
   refine ⟨(X701, X703), ⟨⟨hE702, P25.cap hin699, hE704, P105.cap hin700⟩⟩, ⟨(rdsOk_app.2 ⟨(rdsOk_app.2 ⟨trivial, P25.rds hin699⟩), P105.rds hin700⟩)⟩, ?_⟩
   repeat refine mo1E7 ?_
   first | exact trivial | exact rfl
end Go.Proofs.Ytenjkphlbdhaiaa
end
section
namespace Go.Proofs.Ytenjkphlbdhaiaa
open Go Go.Eng
theorem mo1E8 {p q : Prop} (k : q) (h : p := by first | exact rfl | exact Iff.rfl | exact ⟨rfl, rfl⟩ | exact decide_eq_true_iff | (constructor <;> first | exact rfl | (simp only [ei, eb, es, ec, c25, c105, c135, gmin, gmax, List.map_append, List.flatMap_append, List.nil_append, List.append_nil, List.append_assoc]; done) | omega | (simp only [List.nil_append, List.length_append, List.length_cons, List.length_nil]; omega) | (simp [ei, eb, es, ec, c25, c105, c135, gmin, gmax]; done)) | exact rfl | (simp only [ei, eb, es, ec, c25, c105, c135, gmin, gmax, List.map_append, List.flatMap_append, List.nil_append, List.append_nil, List.append_assoc]; done) | omega | (simp only [List.nil_append, List.length_append, List.length_cons, List.length_nil]; omega) | (simp [ei, eb, es, ec, c25, c105, c135, gmin, gmax]; done) | simp [ei, eb, es, ec, c25, c105, c135, gmin, gmax]) : Ob p ∧ q := ⟨⟨h⟩, k⟩
noncomputable def g34 (a0 : ((Int × List ByteArray × Int × Int) × List (List ByteArray) × List ((List ByteArray) × Int) × Bool × Bool × Int × Int)) (a1 : Int) : Option (Bool × ((Int × List ByteArray × Int × Int) × List (List ByteArray) × List ((List ByteArray) × Int) × Bool × Bool × Int × Int)) :=
 (g13 (a0.1.1, a0.1.2.1, a0.1.2.2.1, a0.1.2.2.2)).bind fun v1 =>
 (g20 (a0.1.1, a0.1.2.1, a0.1.2.2.1, a0.1.2.2.2)).bind fun v3 =>
 if a1 = 1 then
  (
   ck (inR .i64 (v1 - 1)) <|
   (g70 ((a0.1.1, a0.1.2.1, a0.1.2.2.1, a0.1.2.2.2), a0.2.1, a0.2.2.1, a0.2.2.2.1, a0.2.2.2.2.1, a0.2.2.2.2.2.1, a0.2.2.2.2.2.2) (v1 - 1)).bind fun v343 =>
   some (v343.1, ((v343.2.1.1, v343.2.1.2.1, v343.2.1.2.2.1, v343.2.1.2.2.2), v343.2.2.1, v343.2.2.2.1, v343.2.2.2.2.1, v343.2.2.2.2.2.1, v343.2.2.2.2.2.2.1, v343.2.2.2.2.2.2.2))
  )
 else
  (
   if a1 = 2 then
    (
     ck (inR .i64 (v1 + 1)) <|
     (g70 ((a0.1.1, a0.1.2.1, a0.1.2.2.1, a0.1.2.2.2), a0.2.1, a0.2.2.1, a0.2.2.2.1, a0.2.2.2.2.1, a0.2.2.2.2.2.1, a0.2.2.2.2.2.2) (v1 + 1)).bind fun v360 =>
     some (v360.1, ((v360.2.1.1, v360.2.1.2.1, v360.2.1.2.2.1, v360.2.1.2.2.2), v360.2.2.1, v360.2.2.2.1, v360.2.2.2.2.1, v360.2.2.2.2.2.1, v360.2.2.2.2.2.2.1, v360.2.2.2.2.2.2.2))
    )
   else
    (
     if a1 = 3 then
      (
       (g71 ((a0.1.1, a0.1.2.1, a0.1.2.2.1, a0.1.2.2.2), a0.2.1, a0.2.2.1, a0.2.2.2.1, a0.2.2.2.2.1, a0.2.2.2.2.2.1, a0.2.2.2.2.2.2)).bind fun v376 =>
       (g70 ((v376.2.1.1, v376.2.1.2.1, v376.2.1.2.2.1, v376.2.1.2.2.2), v376.2.2.1, v376.2.2.2.1, v376.2.2.2.2.1, v376.2.2.2.2.2.1, v376.2.2.2.2.2.2.1, v376.2.2.2.2.2.2.2) v376.1).bind fun v391 =>
       some (v391.1, ((v391.2.1.1, v391.2.1.2.1, v391.2.1.2.2.1, v391.2.1.2.2.2), v391.2.2.1, v391.2.2.2.1, v391.2.2.2.2.1, v391.2.2.2.2.2.1, v391.2.2.2.2.2.2.1, v391.2.2.2.2.2.2.2))
      )
     else
      (
       if a1 = 4 then
        (
         (g72 ((a0.1.1, a0.1.2.1, a0.1.2.2.1, a0.1.2.2.2), a0.2.1, a0.2.2.1, a0.2.2.2.1, a0.2.2.2.2.1, a0.2.2.2.2.2.1, a0.2.2.2.2.2.2)).bind fun v407 =>
         (g70 ((v407.2.1.1, v407.2.1.2.1, v407.2.1.2.2.1, v407.2.1.2.2.2), v407.2.2.1, v407.2.2.2.1, v407.2.2.2.2.1, v407.2.2.2.2.2.1, v407.2.2.2.2.2.2.1, v407.2.2.2.2.2.2.2) v407.1).bind fun v422 =>
         some (v422.1, ((v422.2.1.1, v422.2.1.2.1, v422.2.1.2.2.1, v422.2.1.2.2.2), v422.2.2.1, v422.2.2.2.1, v422.2.2.2.2.1, v422.2.2.2.2.2.1, v422.2.2.2.2.2.2.1, v422.2.2.2.2.2.2.2))
        )
       else
        (
         if a1 = 5 then
          (
           (g70 ((a0.1.1, a0.1.2.1, a0.1.2.2.1, a0.1.2.2.2), a0.2.1, a0.2.2.1, a0.2.2.2.1, a0.2.2.2.2.1, a0.2.2.2.2.2.1, a0.2.2.2.2.2.2) 0).bind fun v438 =>
           some (v438.1, ((v438.2.1.1, v438.2.1.2.1, v438.2.1.2.2.1, v438.2.1.2.2.2), v438.2.2.1, v438.2.2.2.1, v438.2.2.2.2.1, v438.2.2.2.2.2.1, v438.2.2.2.2.2.2.1, v438.2.2.2.2.2.2.2))
          )
         else
          (
           if a1 = 6 then
            (
             (g70 ((a0.1.1, a0.1.2.1, a0.1.2.2.1, a0.1.2.2.2), a0.2.1, a0.2.2.1, a0.2.2.2.1, a0.2.2.2.2.1, a0.2.2.2.2.2.1, a0.2.2.2.2.2.2) v3).bind fun v454 =>
             some (v454.1, ((v454.2.1.1, v454.2.1.2.1, v454.2.1.2.2.1, v454.2.1.2.2.2), v454.2.2.1, v454.2.2.2.1, v454.2.2.2.2.1, v454.2.2.2.2.2.1, v454.2.2.2.2.2.2.1, v454.2.2.2.2.2.2.2))
            )
           else
            (
             if a1 = 7 then
              (
               ck (inR .i64 (v1 - 1)) <|
               (g73 ((a0.1.1, a0.1.2.1, a0.1.2.2.1, a0.1.2.2.2), a0.2.1, a0.2.2.1, a0.2.2.2.1, a0.2.2.2.2.1, a0.2.2.2.2.2.1, a0.2.2.2.2.2.2) (v1 - 1) v1).bind fun v471 =>
               some (v471.1, ((v471.2.1.1, v471.2.1.2.1, v471.2.1.2.2.1, v471.2.1.2.2.2), v471.2.2.1, v471.2.2.2.1, v471.2.2.2.2.1, v471.2.2.2.2.2.1, v471.2.2.2.2.2.2.1, v471.2.2.2.2.2.2.2))
              )
             else
              (
               if a1 = 8 then
                (
                 ck (inR .i64 (v1 + 1)) <|
                 (g73 ((a0.1.1, a0.1.2.1, a0.1.2.2.1, a0.1.2.2.2), a0.2.1, a0.2.2.1, a0.2.2.2.1, a0.2.2.2.2.1, a0.2.2.2.2.2.1, a0.2.2.2.2.2.2) v1 (v1 + 1)).bind fun v488 =>
                 some (v488.1, ((v488.2.1.1, v488.2.1.2.1, v488.2.1.2.2.1, v488.2.1.2.2.2), v488.2.2.1, v488.2.2.2.1, v488.2.2.2.2.1, v488.2.2.2.2.2.1, v488.2.2.2.2.2.2.1, v488.2.2.2.2.2.2.2))
                )
               else
                (
                 if a1 = 9 then
                  (
                   (g74 ((a0.1.1, a0.1.2.1, a0.1.2.2.1, a0.1.2.2.2), a0.2.1, a0.2.2.1, a0.2.2.2.1, a0.2.2.2.2.1, a0.2.2.2.2.2.1, a0.2.2.2.2.2.2) v1 v3 false).bind fun v504 =>
                   some (v504.1, ((v504.2.1.1, v504.2.1.2.1, v504.2.1.2.2.1, v504.2.1.2.2.2), v504.2.2.1, v504.2.2.2.1, v504.2.2.2.2.1, v504.2.2.2.2.2.1, v504.2.2.2.2.2.2.1, v504.2.2.2.2.2.2.2))
                  )
                 else
                  (
                   if a1 = 10 then
                    (
                     (g74 ((a0.1.1, a0.1.2.1, a0.1.2.2.1, a0.1.2.2.2), a0.2.1, a0.2.2.1, a0.2.2.2.1, a0.2.2.2.2.1, a0.2.2.2.2.2.1, a0.2.2.2.2.2.2) 0 v1 true).bind fun v520 =>
                     some (v520.1, ((v520.2.1.1, v520.2.1.2.1, v520.2.1.2.2.1, v520.2.1.2.2.2), v520.2.2.1, v520.2.2.2.1, v520.2.2.2.2.1, v520.2.2.2.2.2.1, v520.2.2.2.2.2.2.1, v520.2.2.2.2.2.2.2))
                    )
                   else
                    (
                     if a1 = 11 then
                      (
                       (g72 ((a0.1.1, a0.1.2.1, a0.1.2.2.1, a0.1.2.2.2), a0.2.1, a0.2.2.1, a0.2.2.2.1, a0.2.2.2.2.1, a0.2.2.2.2.2.1, a0.2.2.2.2.2.2)).bind fun v536 =>
                       (g74 ((v536.2.1.1, v536.2.1.2.1, v536.2.1.2.2.1, v536.2.1.2.2.2), v536.2.2.1, v536.2.2.2.1, v536.2.2.2.2.1, v536.2.2.2.2.2.1, v536.2.2.2.2.2.2.1, v536.2.2.2.2.2.2.2) v1 v536.1 false).bind fun v551 =>
                       some (v551.1, ((v551.2.1.1, v551.2.1.2.1, v551.2.1.2.2.1, v551.2.1.2.2.2), v551.2.2.1, v551.2.2.2.1, v551.2.2.2.2.1, v551.2.2.2.2.2.1, v551.2.2.2.2.2.2.1, v551.2.2.2.2.2.2.2))
                      )
                     else
                      (
                       if a1 = 12 then
                        (
                         (g71 ((a0.1.1, a0.1.2.1, a0.1.2.2.1, a0.1.2.2.2), a0.2.1, a0.2.2.1, a0.2.2.2.1, a0.2.2.2.2.1, a0.2.2.2.2.2.1, a0.2.2.2.2.2.2)).bind fun v567 =>
                         (g74 ((v567.2.1.1, v567.2.1.2.1, v567.2.1.2.2.1, v567.2.1.2.2.2), v567.2.2.1, v567.2.2.2.1, v567.2.2.2.2.1, v567.2.2.2.2.2.1, v567.2.2.2.2.2.2.1, v567.2.2.2.2.2.2.2) v567.1 v1 true).bind fun v582 =>
                         some (v582.1, ((v582.2.1.1, v582.2.1.2.1, v582.2.1.2.2.1, v582.2.1.2.2.2), v582.2.2.1, v582.2.2.2.1, v582.2.2.2.2.1, v582.2.2.2.2.2.1, v582.2.2.2.2.2.2.1, v582.2.2.2.2.2.2.2))
                        )
                       else
                        (
                         if a1 = 13 then
                          (
                           (g75 ((a0.1.1, a0.1.2.1, a0.1.2.2.1, a0.1.2.2.2), a0.2.1, a0.2.2.1, a0.2.2.2.1, a0.2.2.2.2.1, a0.2.2.2.2.2.1, a0.2.2.2.2.2.2) 0 v1).bind fun v598 =>
                           some (v598.1, ((v598.2.1.1, v598.2.1.2.1, v598.2.1.2.2.1, v598.2.1.2.2.2), v598.2.2.1, v598.2.2.2.1, v598.2.2.2.2.1, v598.2.2.2.2.2.1, v598.2.2.2.2.2.2.1, v598.2.2.2.2.2.2.2))
                          )
                         else
                          (
                           if a1 = 14 then
                            (
                             (g76 ((a0.1.1, a0.1.2.1, a0.1.2.2.1, a0.1.2.2.2), a0.2.1, a0.2.2.1, a0.2.2.2.1, a0.2.2.2.2.1, a0.2.2.2.2.2.1, a0.2.2.2.2.2.2)).bind fun v614 =>
                             some (v614.1, ((v614.2.1.1, v614.2.1.2.1, v614.2.1.2.2.1, v614.2.1.2.2.2), v614.2.2.1, v614.2.2.2.1, v614.2.2.2.2.1, v614.2.2.2.2.2.1, v614.2.2.2.2.2.2.1, v614.2.2.2.2.2.2.2))
                            )
                           else
                            (
                             if a1 = 15 then
                              (
                               (g77 ((a0.1.1, a0.1.2.1, a0.1.2.2.1, a0.1.2.2.2), a0.2.1, a0.2.2.1, a0.2.2.2.1, a0.2.2.2.2.1, a0.2.2.2.2.2.1, a0.2.2.2.2.2.2)).bind fun v630 =>
                               some (v630.1, ((v630.2.1.1, v630.2.1.2.1, v630.2.1.2.2.1, v630.2.1.2.2.2), v630.2.2.1, v630.2.2.2.1, v630.2.2.2.2.1, v630.2.2.2.2.2.1, v630.2.2.2.2.2.2.1, v630.2.2.2.2.2.2.2))
                              )
                             else
                              (
                               if a1 = 16 then
                                (
                                 (g78 ((a0.1.1, a0.1.2.1, a0.1.2.2.1, a0.1.2.2.2), a0.2.1, a0.2.2.1, a0.2.2.2.1, a0.2.2.2.2.1, a0.2.2.2.2.2.1, a0.2.2.2.2.2.2)).bind fun v646 =>
                                 some (v646.1, ((v646.2.1.1, v646.2.1.2.1, v646.2.1.2.2.1, v646.2.1.2.2.2), v646.2.2.1, v646.2.2.2.1, v646.2.2.2.2.1, v646.2.2.2.2.2.1, v646.2.2.2.2.2.2.1, v646.2.2.2.2.2.2.2))
                                )
                               else
                                (
                                 if a1 = 17 then
                                  (
                                   (g73 ((a0.1.1, a0.1.2.1, a0.1.2.2.1, a0.1.2.2.2), a0.2.1, a0.2.2.1, a0.2.2.2.1, a0.2.2.2.2.1, a0.2.2.2.2.2.1, a0.2.2.2.2.2.2) 0 v3).bind fun v662 =>
                                   some (v662.1, ((v662.2.1.1, v662.2.1.2.1, v662.2.1.2.2.1, v662.2.1.2.2.2), v662.2.2.1, v662.2.2.2.1, v662.2.2.2.2.1, v662.2.2.2.2.2.1, v662.2.2.2.2.2.2.1, v662.2.2.2.2.2.2.2))
                                  )
                                 else
                                  some (false, ((a0.1.1, a0.1.2.1, a0.1.2.2.1, a0.1.2.2.2), a0.2.1, a0.2.2.1, false, false, a0.2.2.2.2.2.1, a0.2.2.2.2.2.2))
                                )
                              )
                            )
                          )
                        )
                      )
                    )
                  )
                )
              )
            )
          )
        )
      )
    )
  )
noncomputable def k34 : Eng.CS := { f := 34, calm := false, more := 8, ι := ((Int × List ByteArray × Int × Int) × List (List ByteArray) × List ((List ByteArray) × Int) × Bool × Bool × Int × Int) × Int × (Bool × ((Int × List ByteArray × Int × Int) × List (List ByteArray) × List ((List ByteArray) × Int) × Bool × Bool × Int × Int)) × (List ((Option Addr × Nat) × List ByteArray) × List (((Option Addr × Nat) × List ByteArray) × Int)), ok := fun i => g34 i.1 i.2.1 = some i.2.2.1 ∧ i.2.2.2.1.map e25 = i.1.2.1 ∧ (∀ p ∈ i.2.2.2.1, cap25 p) ∧ i.2.2.2.2.map e105 = i.1.2.2.1 ∧ (∀ p ∈ i.2.2.2.2, cap105 p), rds := fun i => [] ++ (i.2.2.2.1).flatMap R25 ++ (i.2.2.2.2).flatMap R105, args := fun i => [.w (.lp 0 0), .w (.v (.int .i64 (i.2.1)))], res := fun _ => .bad, rn := [(100001, 1, 9, 1), (100000, 1, 25, 1), (100000, 2, 105, 2)], keys := 5, L := fun i => [(0, .cells 73 [.lp 1 0, .own 2, .own 3, bS i.1.2.2.2.1, bS i.1.2.2.2.2.1, .v (.int .i64 (i.1.2.2.2.2.2.1)), .v (.int .i64 (i.1.2.2.2.2.2.2))]), (1, .cells 43 [.v (.int .i64 (i.1.1.1)), .own 4, .v (.int .i64 (i.1.1.2.2.1)), .v (.int .i64 (i.1.1.2.2.2))]), (4, .arr 9 1 i.1.1.2.1.length (es i.1.1.2.1)), (2, .arr 25 1 i.1.2.1.length (ec c25 i.2.2.2.1)), (3, .arr 105 2 i.1.2.2.1.length (ec c105 i.2.2.2.2))], gr := true, γ := (List ((Option Addr × Nat) × List ByteArray)) × (List (((Option Addr × Nat) × List ByteArray) × Int)), resG := fun i _ => bS i.2.2.1.1, LG := fun i g => [(0, .cells 73 [.lp 1 0, .own 5, .own 6, bS i.2.2.1.2.2.2.2.1, bS i.2.2.1.2.2.2.2.2.1, .v (.int .i64 (i.2.2.1.2.2.2.2.2.2.1)), .v (.int .i64 (i.2.2.1.2.2.2.2.2.2.2))]), (1, .cells 43 [.v (.int .i64 (i.2.2.1.2.1.1)), .own 7, .v (.int .i64 (i.2.2.1.2.1.2.2.1)), .v (.int .i64 (i.2.2.1.2.1.2.2.2))]), (7, .arr 9 1 i.2.2.1.2.1.2.1.length (es i.2.2.1.2.1.2.1)), (5, .arr 25 1 i.2.2.1.2.2.1.length (ec c25 g.1)), (6, .arr 105 2 i.2.2.1.2.2.2.1.length (ec c105 g.2))], okG := fun i g => g.1.map e25 = i.2.2.1.2.2.1 ∧ (∀ p ∈ g.1, cap25 p) ∧ g.2.map e105 = i.2.2.1.2.2.2.1 ∧ (∀ p ∈ g.2, cap105 p), rdsG := fun i g => [] ++ (g.1).flatMap R25 ++ (g.2).flatMap R105, fzr := [] }
set_option maxRecDepth 8000 in
set_option maxHeartbeats 4000000 in
theorem k34_ok : CSOk Try.prog k34 := by
 refine R.cspecG Try.func34 nm34 rfl rfl (fun _ => rfl) ?_
 rintro ⟨a0, a1, r, ⟨X0_2, X0_3⟩⟩ ⟨hok, hE0_2, hC0_2, hE0_3, hC0_3⟩ q hrds args hargs
 obtain ⟨hrds, hF0_3⟩ := rdsOk_app.1 hrds
 obtain ⟨hrds, hF0_2⟩ := rdsOk_app.1 hrds
 dsimp only at hC0_2 hF0_2 hE0_2 hC0_3 hF0_3 hE0_3
 dsimp only [k34] at hargs ⊢
 match args, hargs with
 | [_, _], hargs =>
 obtain ⟨rfl, rfl, _⟩ := hargs
 refine ⟨envC [k13, k20, k70, k71, k72, k73, k74, k75, k76, k77, k78] false [], 6, envC_ok (css_cons ⟨fun _ => k13_ok, fun h => (by cases h)⟩ (css_cons ⟨fun _ => k20_ok, fun h => (by cases h)⟩ (css_cons ⟨fun h => (by cases h), fun _ => k70_ok⟩ (css_cons ⟨fun h => (by cases h), fun _ => k71_ok⟩ (css_cons ⟨fun h => (by cases h), fun _ => k72_ok⟩ (css_cons ⟨fun h => (by cases h), fun _ => k73_ok⟩ (css_cons ⟨fun h => (by cases h), fun _ => k74_ok⟩ (css_cons ⟨fun h => (by cases h), fun _ => k75_ok⟩ (css_cons ⟨fun h => (by cases h), fun _ => k76_ok⟩ (css_cons ⟨fun h => (by cases h), fun _ => k77_ok⟩ (css_cons ⟨fun h => (by cases h), fun _ => k78_ok⟩ (css_nil)))))))))))), ?_⟩
 have H : Gives (g34 a0 a1) (fun a => a = r) := ⟨r, hok, rfl⟩
 unfold g34 at H
 clear hok
 refine And.intro ⟨by kernel_rfl⟩ ?_
 obtain ⟨v1, hv2, H⟩ := call_st H
 refine ⟨((a0.1.1, a0.1.2.1, a0.1.2.2.1, a0.1.2.2.2), v1), ⟨hv2⟩, ⟨trivial⟩, ?_⟩
 iterate 4 refine mo1E8 ?_
 obtain ⟨v3, hv4, H⟩ := call_st H
 refine ⟨((a0.1.1, a0.1.2.1, a0.1.2.2.1, a0.1.2.2.2), v3), ⟨hv4⟩, ⟨trivial⟩, ?_⟩
 iterate 4 refine mo1E8 ?_
 refine if_st H (fun h341 H => ?_) (fun h341 H => ?_)
 ·refine ob_ck H fun h342 H => ?_
  obtain ⟨v343, hv344, H⟩ := call_st H
  refine ⟨(((a0.1.1, a0.1.2.1, a0.1.2.2.1, a0.1.2.2.2), a0.2.1, a0.2.2.1, a0.2.2.2.1, a0.2.2.2.2.1, a0.2.2.2.2.2.1, a0.2.2.2.2.2.2), v1 - 1, v343, (X0_2, X0_3)), ⟨hv344, hE0_2, P25.cap (P25.of hF0_2 hC0_2), hE0_3, P105.cap (P105.of hF0_3 hC0_3)⟩, ⟨(rdsOk_app.2 ⟨(rdsOk_app.2 ⟨trivial, P25.rds (P25.of hF0_2 hC0_2)⟩), P105.rds (P105.of hF0_3 hC0_3)⟩)⟩, ?_⟩
  iterate 2 refine And.intro ⟨rfl⟩ ?_
  iterate 11 refine mo1E8 ?_
  intro q345 g346 hq347 hok348 hrd349
  obtain ⟨X352, X356⟩ := g346
  obtain ⟨hE353, hC350, hE357, hC354⟩ := hok348
  obtain ⟨hrd349, hF355⟩ := rdsOk_app.1 hrd349
  obtain ⟨hrd349, hF351⟩ := rdsOk_app.1 hrd349
  try dsimp only at hC350 hF351 hE353 hC354 hF355 hE357
  have hfin := fin_st H
  subst hfin
  refine ⟨(X352, X356), ⟨⟨hE353, P25.cap (P25.of hF351 hC350), hE357, P105.cap (P105.of hF355 hC354)⟩⟩, ⟨(rdsOk_app.2 ⟨(rdsOk_app.2 ⟨trivial, P25.rds (P25.of hF351 hC350)⟩), P105.rds (P105.of hF355 hC354)⟩)⟩, ?_⟩
  repeat refine mo1E8 ?_
  first | exact trivial | exact rfl
 ·refine if_st H (fun h358 H => ?_) (fun h358 H => ?_)
  ·refine ob_ck H fun h359 H => ?_
   obtain ⟨v360, hv361, H⟩ := call_st H
   refine ⟨(((a0.1.1, a0.1.2.1, a0.1.2.2.1, a0.1.2.2.2), a0.2.1, a0.2.2.1, a0.2.2.2.1, a0.2.2.2.2.1, a0.2.2.2.2.2.1, a0.2.2.2.2.2.2), v1 + 1, v360, (X0_2, X0_3)), ⟨hv361, hE0_2, P25.cap (P25.of hF0_2 hC0_2), hE0_3, P105.cap (P105.of hF0_3 hC0_3)⟩, ⟨(rdsOk_app.2 ⟨(rdsOk_app.2 ⟨trivial, P25.rds (P25.of hF0_2 hC0_2)⟩), P105.rds (P105.of hF0_3 hC0_3)⟩)⟩, ?_⟩
   iterate 2 refine And.intro ⟨rfl⟩ ?_
   iterate 11 refine mo1E8 ?_
   intro q362 g363 hq364 hok365 hrd366
   obtain ⟨X369, X373⟩ := g363
   obtain ⟨hE370, hC367, hE374, hC371⟩ := hok365
   obtain ⟨hrd366, hF372⟩ := rdsOk_app.1 hrd366
   obtain ⟨hrd366, hF368⟩ := rdsOk_app.1 hrd366
   try dsimp only at hC367 hF368 hE370 hC371 hF372 hE374
   have hfin := fin_st H
   subst hfin
   refine ⟨(X369, X373), ⟨⟨hE370, P25.cap (P25.of hF368 hC367), hE374, P105.cap (P105.of hF372 hC371)⟩⟩, ⟨(rdsOk_app.2 ⟨(rdsOk_app.2 ⟨trivial, P25.rds (P25.of hF368 hC367)⟩), P105.rds (P105.of hF372 hC371)⟩)⟩, ?_⟩
   repeat refine mo1E8 ?_
   first | exact trivial | exact rfl
  ·refine if_st H (fun h375 H => ?_) (fun h375 H => ?_)
   ·obtain ⟨v376, hv377, H⟩ := call_st H
    refine ⟨(((a0.1.1, a0.1.2.1, a0.1.2.2.1, a0.1.2.2.2), a0.2.1, a0.2.2.1, a0.2.2.2.1, a0.2.2.2.2.1, a0.2.2.2.2.2.1, a0.2.2.2.2.2.2), v376, (X0_2, X0_3)), ⟨hv377, hE0_2, P25.cap (P25.of hF0_2 hC0_2), hE0_3, P105.cap (P105.of hF0_3 hC0_3)⟩, ⟨(rdsOk_app.2 ⟨(rdsOk_app.2 ⟨trivial, P25.rds (P25.of hF0_2 hC0_2)⟩), P105.rds (P105.of hF0_3 hC0_3)⟩)⟩, ?_⟩
    refine And.intro ⟨rfl⟩ ?_
    iterate 11 refine mo1E8 ?_
    intro q378 g379 hq380 hok381 hrd382
    obtain ⟨X385, X389⟩ := g379
    obtain ⟨hE386, hC383, hE390, hC387⟩ := hok381
    obtain ⟨hrd382, hF388⟩ := rdsOk_app.1 hrd382
    obtain ⟨hrd382, hF384⟩ := rdsOk_app.1 hrd382
    try dsimp only at hC383 hF384 hE386 hC387 hF388 hE390
    obtain ⟨v391, hv392, H⟩ := call_st H
    refine ⟨(((v376.2.1.1, v376.2.1.2.1, v376.2.1.2.2.1, v376.2.1.2.2.2), v376.2.2.1, v376.2.2.2.1, v376.2.2.2.2.1, v376.2.2.2.2.2.1, v376.2.2.2.2.2.2.1, v376.2.2.2.2.2.2.2), v376.1, v391, (X385, X389)), ⟨hv392, hE386, P25.cap (P25.of hF384 hC383), hE390, P105.cap (P105.of hF388 hC387)⟩, ⟨(rdsOk_app.2 ⟨(rdsOk_app.2 ⟨trivial, P25.rds (P25.of hF384 hC383)⟩), P105.rds (P105.of hF388 hC387)⟩)⟩, ?_⟩
    iterate 2 refine And.intro ⟨rfl⟩ ?_
    iterate 11 refine mo1E8 ?_
    intro q393 g394 hq395 hok396 hrd397
    obtain ⟨X400, X404⟩ := g394
    obtain ⟨hE401, hC398, hE405, hC402⟩ := hok396
    obtain ⟨hrd397, hF403⟩ := rdsOk_app.1 hrd397
    obtain ⟨hrd397, hF399⟩ := rdsOk_app.1 hrd397
    try dsimp only at hC398 hF399 hE401 hC402 hF403 hE405
    have hfin := fin_st H
    subst hfin
    refine ⟨(X400, X404), ⟨⟨hE401, P25.cap (P25.of hF399 hC398), hE405, P105.cap (P105.of hF403 hC402)⟩⟩, ⟨(rdsOk_app.2 ⟨(rdsOk_app.2 ⟨trivial, P25.rds (P25.of hF399 hC398)⟩), P105.rds (P105.of hF403 hC402)⟩)⟩, ?_⟩
    repeat refine mo1E8 ?_
    first | exact trivial | exact rfl
   ·refine if_st H (fun h406 H => ?_) (fun h406 H => ?_)
    ·obtain ⟨v407, hv408, H⟩ := call_st H
     refine ⟨(((a0.1.1, a0.1.2.1, a0.1.2.2.1, a0.1.2.2.2), a0.2.1, a0.2.2.1, a0.2.2.2.1, a0.2.2.2.2.1, a0.2.2.2.2.2.1, a0.2.2.2.2.2.2), v407, (X0_2, X0_3)), ⟨hv408, hE0_2, P25.cap (P25.of hF0_2 hC0_2), hE0_3, P105.cap (P105.of hF0_3 hC0_3)⟩, ⟨(rdsOk_app.2 ⟨(rdsOk_app.2 ⟨trivial, P25.rds (P25.of hF0_2 hC0_2)⟩), P105.rds (P105.of hF0_3 hC0_3)⟩)⟩, ?_⟩
     refine And.intro ⟨rfl⟩ ?_
     iterate 11 refine mo1E8 ?_
     intro q409 g410 hq411 hok412 hrd413
     obtain ⟨X416, X420⟩ := g410
     obtain ⟨hE417, hC414, hE421, hC418⟩ := hok412
     obtain ⟨hrd413, hF419⟩ := rdsOk_app.1 hrd413
     obtain ⟨hrd413, hF415⟩ := rdsOk_app.1 hrd413
     try dsimp only at hC414 hF415 hE417 hC418 hF419 hE421
     obtain ⟨v422, hv423, H⟩ := call_st H
     refine ⟨(((v407.2.1.1, v407.2.1.2.1, v407.2.1.2.2.1, v407.2.1.2.2.2), v407.2.2.1, v407.2.2.2.1, v407.2.2.2.2.1, v407.2.2.2.2.2.1, v407.2.2.2.2.2.2.1, v407.2.2.2.2.2.2.2), v407.1, v422, (X416, X420)), ⟨hv423, hE417, P25.cap (P25.of hF415 hC414), hE421, P105.cap (P105.of hF419 hC418)⟩, ⟨(rdsOk_app.2 ⟨(rdsOk_app.2 ⟨trivial, P25.rds (P25.of hF415 hC414)⟩), P105.rds (P105.of hF419 hC418)⟩)⟩, ?_⟩
     iterate 2 refine And.intro ⟨rfl⟩ ?_
     iterate 11 refine mo1E8 ?_
     intro q424 g425 hq426 hok427 hrd428
     obtain ⟨X431, X435⟩ := g425
     obtain ⟨hE432, hC429, hE436, hC433⟩ := hok427
     obtain ⟨hrd428, hF434⟩ := rdsOk_app.1 hrd428
     obtain ⟨hrd428, hF430⟩ := rdsOk_app.1 hrd428
     try dsimp only at hC429 hF430 hE432 hC433 hF434 hE436
     have hfin := fin_st H
     subst hfin
     refine ⟨(X431, X435), ⟨⟨hE432, P25.cap (P25.of hF430 hC429), hE436, P105.cap (P105.of hF434 hC433)⟩⟩, ⟨(rdsOk_app.2 ⟨(rdsOk_app.2 ⟨trivial, P25.rds (P25.of hF430 hC429)⟩), P105.rds (P105.of hF434 hC433)⟩)⟩, ?_⟩
     repeat refine mo1E8 ?_
     first | exact trivial | exact rfl
    ·refine if_st H (fun h437 H => ?_) (fun h437 H => ?_)
     ·obtain ⟨v438, hv439, H⟩ := call_st H
      refine ⟨(((a0.1.1, a0.1.2.1, a0.1.2.2.1, a0.1.2.2.2), a0.2.1, a0.2.2.1, a0.2.2.2.1, a0.2.2.2.2.1, a0.2.2.2.2.2.1, a0.2.2.2.2.2.2), 0, v438, (X0_2, X0_3)), ⟨hv439, hE0_2, P25.cap (P25.of hF0_2 hC0_2), hE0_3, P105.cap (P105.of hF0_3 hC0_3)⟩, ⟨(rdsOk_app.2 ⟨(rdsOk_app.2 ⟨trivial, P25.rds (P25.of hF0_2 hC0_2)⟩), P105.rds (P105.of hF0_3 hC0_3)⟩)⟩, ?_⟩
      iterate 2 refine And.intro ⟨rfl⟩ ?_
      iterate 11 refine mo1E8 ?_
      intro q440 g441 hq442 hok443 hrd444
      obtain ⟨X447, X451⟩ := g441
      obtain ⟨hE448, hC445, hE452, hC449⟩ := hok443
      obtain ⟨hrd444, hF450⟩ := rdsOk_app.1 hrd444
      obtain ⟨hrd444, hF446⟩ := rdsOk_app.1 hrd444
      try dsimp only at hC445 hF446 hE448 hC449 hF450 hE452
      have hfin := fin_st H
      subst hfin
      refine ⟨(X447, X451), ⟨⟨hE448, P25.cap (P25.of hF446 hC445), hE452, P105.cap (P105.of hF450 hC449)⟩⟩, ⟨(rdsOk_app.2 ⟨(rdsOk_app.2 ⟨trivial, P25.rds (P25.of hF446 hC445)⟩), P105.rds (P105.of hF450 hC449)⟩)⟩, ?_⟩
      repeat refine mo1E8 ?_
      first | exact trivial | exact rfl
     ·refine if_st H (fun h453 H => ?_) (fun h453 H => ?_)
      ·obtain ⟨v454, hv455, H⟩ := call_st H
       refine ⟨(((a0.1.1, a0.1.2.1, a0.1.2.2.1, a0.1.2.2.2), a0.2.1, a0.2.2.1, a0.2.2.2.1, a0.2.2.2.2.1, a0.2.2.2.2.2.1, a0.2.2.2.2.2.2), v3, v454, (X0_2, X0_3)), ⟨hv455, hE0_2, P25.cap (P25.of hF0_2 hC0_2), hE0_3, P105.cap (P105.of hF0_3 hC0_3)⟩, ⟨(rdsOk_app.2 ⟨(rdsOk_app.2 ⟨trivial, P25.rds (P25.of hF0_2 hC0_2)⟩), P105.rds (P105.of hF0_3 hC0_3)⟩)⟩, ?_⟩
       iterate 2 refine And.intro ⟨rfl⟩ ?_
       iterate 11 refine mo1E8 ?_
       intro q456 g457 hq458 hok459 hrd460
       obtain ⟨X463, X467⟩ := g457
       obtain ⟨hE464, hC461, hE468, hC465⟩ := hok459
       obtain ⟨hrd460, hF466⟩ := rdsOk_app.1 hrd460
       obtain ⟨hrd460, hF462⟩ := rdsOk_app.1 hrd460
       try dsimp only at hC461 hF462 hE464 hC465 hF466 hE468
       have hfin := fin_st H
       subst hfin
       refine ⟨(X463, X467), ⟨⟨hE464, P25.cap (P25.of hF462 hC461), hE468, P105.cap (P105.of hF466 hC465)⟩⟩, ⟨(rdsOk_app.2 ⟨(rdsOk_app.2 ⟨trivial, P25.rds (P25.of hF462 hC461)⟩), P105.rds (P105.of hF466 hC465)⟩)⟩, ?_⟩
       repeat refine mo1E8 ?_
       first | exact trivial | exact rfl
      ·refine if_st H (fun h469 H => ?_) (fun h469 H => ?_)
       ·refine ob_ck H fun h470 H => ?_
        obtain ⟨v471, hv472, H⟩ := call_st H
        refine ⟨(((a0.1.1, a0.1.2.1, a0.1.2.2.1, a0.1.2.2.2), a0.2.1, a0.2.2.1, a0.2.2.2.1, a0.2.2.2.2.1, a0.2.2.2.2.2.1, a0.2.2.2.2.2.2), v1 - 1, v1, v471, (X0_2, X0_3)), ⟨hv472, hE0_2, P25.cap (P25.of hF0_2 hC0_2), hE0_3, P105.cap (P105.of hF0_3 hC0_3)⟩, ⟨(rdsOk_app.2 ⟨(rdsOk_app.2 ⟨trivial, P25.rds (P25.of hF0_2 hC0_2)⟩), P105.rds (P105.of hF0_3 hC0_3)⟩)⟩, ?_⟩
        iterate 3 refine And.intro ⟨rfl⟩ ?_
        iterate 11 refine mo1E8 ?_
        intro q473 g474 hq475 hok476 hrd477
        obtain ⟨X480, X484⟩ := g474
        obtain ⟨hE481, hC478, hE485, hC482⟩ := hok476
        obtain ⟨hrd477, hF483⟩ := rdsOk_app.1 hrd477
        obtain ⟨hrd477, hF479⟩ := rdsOk_app.1 hrd477
        try dsimp only at hC478 hF479 hE481 hC482 hF483 hE485
        have hfin := fin_st H
        subst hfin
        refine ⟨(X480, X484), ⟨⟨hE481, P25.cap (P25.of hF479 hC478), hE485, P105.cap (P105.of hF483 hC482)⟩⟩, ⟨(rdsOk_app.2 ⟨(rdsOk_app.2 ⟨trivial, P25.rds (P25.of hF479 hC478)⟩), P105.rds (P105.of hF483 hC482)⟩)⟩, ?_⟩
        repeat refine mo1E8 ?_
        first | exact trivial | exact rfl
       ·refine if_st H (fun h486 H => ?_) (fun h486 H => ?_)
        ·refine ob_ck H fun h487 H => ?_
         obtain ⟨v488, hv489, H⟩ := call_st H
         refine ⟨(((a0.1.1, a0.1.2.1, a0.1.2.2.1, a0.1.2.2.2), a0.2.1, a0.2.2.1, a0.2.2.2.1, a0.2.2.2.2.1, a0.2.2.2.2.2.1, a0.2.2.2.2.2.2), v1, v1 + 1, v488, (X0_2, X0_3)), ⟨hv489, hE0_2, P25.cap (P25.of hF0_2 hC0_2), hE0_3, P105.cap (P105.of hF0_3 hC0_3)⟩, ⟨(rdsOk_app.2 ⟨(rdsOk_app.2 ⟨trivial, P25.rds (P25.of hF0_2 hC0_2)⟩), P105.rds (P105.of hF0_3 hC0_3)⟩)⟩, ?_⟩
         iterate 3 refine And.intro ⟨rfl⟩ ?_
         iterate 11 refine mo1E8 ?_
         intro q490 g491 hq492 hok493 hrd494
         obtain ⟨X497, X501⟩ := g491
         obtain ⟨hE498, hC495, hE502, hC499⟩ := hok493
         obtain ⟨hrd494, hF500⟩ := rdsOk_app.1 hrd494
         obtain ⟨hrd494, hF496⟩ := rdsOk_app.1 hrd494
         try dsimp only at hC495 hF496 hE498 hC499 hF500 hE502
         have hfin := fin_st H
         subst hfin
         refine ⟨(X497, X501), ⟨⟨hE498, P25.cap (P25.of hF496 hC495), hE502, P105.cap (P105.of hF500 hC499)⟩⟩, ⟨(rdsOk_app.2 ⟨(rdsOk_app.2 ⟨trivial, P25.rds (P25.of hF496 hC495)⟩), P105.rds (P105.of hF500 hC499)⟩)⟩, ?_⟩
         repeat refine mo1E8 ?_
         first | exact trivial | exact rfl
        ·refine if_st H (fun h503 H => ?_) (fun h503 H => ?_)
         ·obtain ⟨v504, hv505, H⟩ := call_st H
          refine ⟨(((a0.1.1, a0.1.2.1, a0.1.2.2.1, a0.1.2.2.2), a0.2.1, a0.2.2.1, a0.2.2.2.1, a0.2.2.2.2.1, a0.2.2.2.2.2.1, a0.2.2.2.2.2.2), v1, v3, false, v504, (X0_2, X0_3)), ⟨hv505, hE0_2, P25.cap (P25.of hF0_2 hC0_2), hE0_3, P105.cap (P105.of hF0_3 hC0_3)⟩, ⟨(rdsOk_app.2 ⟨(rdsOk_app.2 ⟨trivial, P25.rds (P25.of hF0_2 hC0_2)⟩), P105.rds (P105.of hF0_3 hC0_3)⟩)⟩, ?_⟩
          iterate 3 refine And.intro ⟨rfl⟩ ?_
          iterate 12 refine mo1E8 ?_
          intro q506 g507 hq508 hok509 hrd510
          obtain ⟨X513, X517⟩ := g507
          obtain ⟨hE514, hC511, hE518, hC515⟩ := hok509
          obtain ⟨hrd510, hF516⟩ := rdsOk_app.1 hrd510
          obtain ⟨hrd510, hF512⟩ := rdsOk_app.1 hrd510
          try dsimp only at hC511 hF512 hE514 hC515 hF516 hE518
          have hfin := fin_st H
          subst hfin
          refine ⟨(X513, X517), ⟨⟨hE514, P25.cap (P25.of hF512 hC511), hE518, P105.cap (P105.of hF516 hC515)⟩⟩, ⟨(rdsOk_app.2 ⟨(rdsOk_app.2 ⟨trivial, P25.rds (P25.of hF512 hC511)⟩), P105.rds (P105.of hF516 hC515)⟩)⟩, ?_⟩
          repeat refine mo1E8 ?_
          first | exact trivial | exact rfl
         ·refine if_st H (fun h519 H => ?_) (fun h519 H => ?_)
          ·obtain ⟨v520, hv521, H⟩ := call_st H
           refine ⟨(((a0.1.1, a0.1.2.1, a0.1.2.2.1, a0.1.2.2.2), a0.2.1, a0.2.2.1, a0.2.2.2.1, a0.2.2.2.2.1, a0.2.2.2.2.2.1, a0.2.2.2.2.2.2), 0, v1, true, v520, (X0_2, X0_3)), ⟨hv521, hE0_2, P25.cap (P25.of hF0_2 hC0_2), hE0_3, P105.cap (P105.of hF0_3 hC0_3)⟩, ⟨(rdsOk_app.2 ⟨(rdsOk_app.2 ⟨trivial, P25.rds (P25.of hF0_2 hC0_2)⟩), P105.rds (P105.of hF0_3 hC0_3)⟩)⟩, ?_⟩
           iterate 3 refine And.intro ⟨rfl⟩ ?_
           iterate 12 refine mo1E8 ?_
           intro q522 g523 hq524 hok525 hrd526
           obtain ⟨X529, X533⟩ := g523
           obtain ⟨hE530, hC527, hE534, hC531⟩ := hok525
           obtain ⟨hrd526, hF532⟩ := rdsOk_app.1 hrd526
           obtain ⟨hrd526, hF528⟩ := rdsOk_app.1 hrd526
           try dsimp only at hC527 hF528 hE530 hC531 hF532 hE534
           have hfin := fin_st H
           subst hfin
           refine ⟨(X529, X533), ⟨⟨hE530, P25.cap (P25.of hF528 hC527), hE534, P105.cap (P105.of hF532 hC531)⟩⟩, ⟨(rdsOk_app.2 ⟨(rdsOk_app.2 ⟨trivial, P25.rds (P25.of hF528 hC527)⟩), P105.rds (P105.of hF532 hC531)⟩)⟩, ?_⟩
           repeat refine mo1E8 ?_
           first | exact trivial | exact rfl
          ·refine if_st H (fun h535 H => ?_) (fun h535 H => ?_)
           ·obtain ⟨v536, hv537, H⟩ := call_st H
            refine ⟨(((a0.1.1, a0.1.2.1, a0.1.2.2.1, a0.1.2.2.2), a0.2.1, a0.2.2.1, a0.2.2.2.1, a0.2.2.2.2.1, a0.2.2.2.2.2.1, a0.2.2.2.2.2.2), v536, (X0_2, X0_3)), ⟨hv537, hE0_2, P25.cap (P25.of hF0_2 hC0_2), hE0_3, P105.cap (P105.of hF0_3 hC0_3)⟩, ⟨(rdsOk_app.2 ⟨(rdsOk_app.2 ⟨trivial, P25.rds (P25.of hF0_2 hC0_2)⟩), P105.rds (P105.of hF0_3 hC0_3)⟩)⟩, ?_⟩
            refine And.intro ⟨rfl⟩ ?_
            iterate 11 refine mo1E8 ?_
            intro q538 g539 hq540 hok541 hrd542
            obtain ⟨X545, X549⟩ := g539
            obtain ⟨hE546, hC543, hE550, hC547⟩ := hok541
            obtain ⟨hrd542, hF548⟩ := rdsOk_app.1 hrd542
            obtain ⟨hrd542, hF544⟩ := rdsOk_app.1 hrd542
            try dsimp only at hC543 hF544 hE546 hC547 hF548 hE550
            obtain ⟨v551, hv552, H⟩ := call_st H
            refine ⟨(((v536.2.1.1, v536.2.1.2.1, v536.2.1.2.2.1, v536.2.1.2.2.2), v536.2.2.1, v536.2.2.2.1, v536.2.2.2.2.1, v536.2.2.2.2.2.1, v536.2.2.2.2.2.2.1, v536.2.2.2.2.2.2.2), v1, v536.1, false, v551, (X545, X549)), ⟨hv552, hE546, P25.cap (P25.of hF544 hC543), hE550, P105.cap (P105.of hF548 hC547)⟩, ⟨(rdsOk_app.2 ⟨(rdsOk_app.2 ⟨trivial, P25.rds (P25.of hF544 hC543)⟩), P105.rds (P105.of hF548 hC547)⟩)⟩, ?_⟩
            iterate 3 refine And.intro ⟨rfl⟩ ?_
            iterate 12 refine mo1E8 ?_
            intro q553 g554 hq555 hok556 hrd557
            obtain ⟨X560, X564⟩ := g554
            obtain ⟨hE561, hC558, hE565, hC562⟩ := hok556
            obtain ⟨hrd557, hF563⟩ := rdsOk_app.1 hrd557
            obtain ⟨hrd557, hF559⟩ := rdsOk_app.1 hrd557
            try dsimp only at hC558 hF559 hE561 hC562 hF563 hE565
            have hfin := fin_st H
            subst hfin
            refine ⟨(X560, X564), ⟨⟨hE561, P25.cap (P25.of hF559 hC558), hE565, P105.cap (P105.of hF563 hC562)⟩⟩, ⟨(rdsOk_app.2 ⟨(rdsOk_app.2 ⟨trivial, P25.rds (P25.of hF559 hC558)⟩), P105.rds (P105.of hF563 hC562)⟩)⟩, ?_⟩
            repeat refine mo1E8 ?_
            first | exact trivial | exact rfl
           ·refine if_st H (fun h566 H => ?_) (fun h566 H => ?_)
            ·obtain ⟨v567, hv568, H⟩ := call_st H
             refine ⟨(((a0.1.1, a0.1.2.1, a0.1.2.2.1, a0.1.2.2.2), a0.2.1, a0.2.2.1, a0.2.2.2.1, a0.2.2.2.2.1, a0.2.2.2.2.2.1, a0.2.2.2.2.2.2), v567, (X0_2, X0_3)), ⟨hv568, hE0_2, P25.cap (P25.of hF0_2 hC0_2), hE0_3, P105.cap (P105.of hF0_3 hC0_3)⟩, ⟨(rdsOk_app.2 ⟨(rdsOk_app.2 ⟨trivial, P25.rds (P25.of hF0_2 hC0_2)⟩), P105.rds (P105.of hF0_3 hC0_3)⟩)⟩, ?_⟩
             refine And.intro ⟨rfl⟩ ?_
             iterate 11 refine mo1E8 ?_
             intro q569 g570 hq571 hok572 hrd573
             obtain ⟨X576, X580⟩ := g570
             obtain ⟨hE577, hC574, hE581, hC578⟩ := hok572
             obtain ⟨hrd573, hF579⟩ := rdsOk_app.1 hrd573
             obtain ⟨hrd573, hF575⟩ := rdsOk_app.1 hrd573
             try dsimp only at hC574 hF575 hE577 hC578 hF579 hE581
             obtain ⟨v582, hv583, H⟩ := call_st H
             refine ⟨(((v567.2.1.1, v567.2.1.2.1, v567.2.1.2.2.1, v567.2.1.2.2.2), v567.2.2.1, v567.2.2.2.1, v567.2.2.2.2.1, v567.2.2.2.2.2.1, v567.2.2.2.2.2.2.1, v567.2.2.2.2.2.2.2), v567.1, v1, true, v582, (X576, X580)), ⟨hv583, hE577, P25.cap (P25.of hF575 hC574), hE581, P105.cap (P105.of hF579 hC578)⟩, ⟨(rdsOk_app.2 ⟨(rdsOk_app.2 ⟨trivial, P25.rds (P25.of hF575 hC574)⟩), P105.rds (P105.of hF579 hC578)⟩)⟩, ?_⟩
             iterate 3 refine And.intro ⟨rfl⟩ ?_
             iterate 12 refine mo1E8 ?_
             intro q584 g585 hq586 hok587 hrd588
             obtain ⟨X591, X595⟩ := g585
             obtain ⟨hE592, hC589, hE596, hC593⟩ := hok587
             obtain ⟨hrd588, hF594⟩ := rdsOk_app.1 hrd588
             obtain ⟨hrd588, hF590⟩ := rdsOk_app.1 hrd588
             try dsimp only at hC589 hF590 hE592 hC593 hF594 hE596
             have hfin := fin_st H
             subst hfin
             refine ⟨(X591, X595), ⟨⟨hE592, P25.cap (P25.of hF590 hC589), hE596, P105.cap (P105.of hF594 hC593)⟩⟩, ⟨(rdsOk_app.2 ⟨(rdsOk_app.2 ⟨trivial, P25.rds (P25.of hF590 hC589)⟩), P105.rds (P105.of hF594 hC593)⟩)⟩, ?_⟩
             repeat refine mo1E8 ?_
             first | exact trivial | exact rfl
            ·refine if_st H (fun h597 H => ?_) (fun h597 H => ?_)
             ·obtain ⟨v598, hv599, H⟩ := call_st H
              refine ⟨(((a0.1.1, a0.1.2.1, a0.1.2.2.1, a0.1.2.2.2), a0.2.1, a0.2.2.1, a0.2.2.2.1, a0.2.2.2.2.1, a0.2.2.2.2.2.1, a0.2.2.2.2.2.2), 0, v1, v598, (X0_2, X0_3)), ⟨hv599, hE0_2, P25.cap (P25.of hF0_2 hC0_2), hE0_3, P105.cap (P105.of hF0_3 hC0_3)⟩, ⟨(rdsOk_app.2 ⟨(rdsOk_app.2 ⟨trivial, P25.rds (P25.of hF0_2 hC0_2)⟩), P105.rds (P105.of hF0_3 hC0_3)⟩)⟩, ?_⟩
              iterate 3 refine And.intro ⟨rfl⟩ ?_
              iterate 11 refine mo1E8 ?_
              intro q600 g601 hq602 hok603 hrd604
              obtain ⟨X607, X611⟩ := g601
              obtain ⟨hE608, hC605, hE612, hC609⟩ := hok603
              obtain ⟨hrd604, hF610⟩ := rdsOk_app.1 hrd604
              obtain ⟨hrd604, hF606⟩ := rdsOk_app.1 hrd604
              try dsimp only at hC605 hF606 hE608 hC609 hF610 hE612
              have hfin := fin_st H
              subst hfin
              refine ⟨(X607, X611), ⟨⟨hE608, P25.cap (P25.of hF606 hC605), hE612, P105.cap (P105.of hF610 hC609)⟩⟩, ⟨(rdsOk_app.2 ⟨(rdsOk_app.2 ⟨trivial, P25.rds (P25.of hF606 hC605)⟩), P105.rds (P105.of hF610 hC609)⟩)⟩, ?_⟩
              repeat refine mo1E8 ?_
              first | exact trivial | exact rfl
             ·refine if_st H (fun h613 H => ?_) (fun h613 H => ?_)
              ·obtain ⟨v614, hv615, H⟩ := call_st H
               refine ⟨(((a0.1.1, a0.1.2.1, a0.1.2.2.1, a0.1.2.2.2), a0.2.1, a0.2.2.1, a0.2.2.2.1, a0.2.2.2.2.1, a0.2.2.2.2.2.1, a0.2.2.2.2.2.2), v614, (X0_2, X0_3)), ⟨hv615, hE0_2, P25.cap (P25.of hF0_2 hC0_2), hE0_3, P105.cap (P105.of hF0_3 hC0_3)⟩, ⟨(rdsOk_app.2 ⟨(rdsOk_app.2 ⟨trivial, P25.rds (P25.of hF0_2 hC0_2)⟩), P105.rds (P105.of hF0_3 hC0_3)⟩)⟩, ?_⟩
               refine And.intro ⟨rfl⟩ ?_
               iterate 11 refine mo1E8 ?_
               intro q616 g617 hq618 hok619 hrd620
               obtain ⟨X623, X627⟩ := g617
               obtain ⟨hE624, hC621, hE628, hC625⟩ := hok619
               obtain ⟨hrd620, hF626⟩ := rdsOk_app.1 hrd620
               obtain ⟨hrd620, hF622⟩ := rdsOk_app.1 hrd620
               try dsimp only at hC621 hF622 hE624 hC625 hF626 hE628
               have hfin := fin_st H
               subst hfin
               refine ⟨(X623, X627), ⟨⟨hE624, P25.cap (P25.of hF622 hC621), hE628, P105.cap (P105.of hF626 hC625)⟩⟩, ⟨(rdsOk_app.2 ⟨(rdsOk_app.2 ⟨trivial, P25.rds (P25.of hF622 hC621)⟩), P105.rds (P105.of hF626 hC625)⟩)⟩, ?_⟩
               repeat refine mo1E8 ?_
               first | exact trivial | exact rfl
              ·refine if_st H (fun h629 H => ?_) (fun h629 H => ?_)
               ·obtain ⟨v630, hv631, H⟩ := call_st H
                refine ⟨(((a0.1.1, a0.1.2.1, a0.1.2.2.1, a0.1.2.2.2), a0.2.1, a0.2.2.1, a0.2.2.2.1, a0.2.2.2.2.1, a0.2.2.2.2.2.1, a0.2.2.2.2.2.2), v630, (X0_2, X0_3)), ⟨hv631, hE0_2, P25.cap (P25.of hF0_2 hC0_2), hE0_3, P105.cap (P105.of hF0_3 hC0_3)⟩, ⟨(rdsOk_app.2 ⟨(rdsOk_app.2 ⟨trivial, P25.rds (P25.of hF0_2 hC0_2)⟩), P105.rds (P105.of hF0_3 hC0_3)⟩)⟩, ?_⟩
                refine And.intro ⟨rfl⟩ ?_
                iterate 11 refine mo1E8 ?_
                intro q632 g633 hq634 hok635 hrd636
                obtain ⟨X639, X643⟩ := g633
                obtain ⟨hE640, hC637, hE644, hC641⟩ := hok635
                obtain ⟨hrd636, hF642⟩ := rdsOk_app.1 hrd636
                obtain ⟨hrd636, hF638⟩ := rdsOk_app.1 hrd636
                try dsimp only at hC637 hF638 hE640 hC641 hF642 hE644
                have hfin := fin_st H
                subst hfin
                refine ⟨(X639, X643), ⟨⟨hE640, P25.cap (P25.of hF638 hC637), hE644, P105.cap (P105.of hF642 hC641)⟩⟩, ⟨(rdsOk_app.2 ⟨(rdsOk_app.2 ⟨trivial, P25.rds (P25.of hF638 hC637)⟩), P105.rds (P105.of hF642 hC641)⟩)⟩, ?_⟩
                repeat refine mo1E8 ?_
                first | exact trivial | exact rfl
               ·refine if_st H (fun h645 H => ?_) (fun h645 H => ?_)
                ·obtain ⟨v646, hv647, H⟩ := call_st H
                 refine ⟨(((a0.1.1, a0.1.2.1, a0.1.2.2.1, a0.1.2.2.2), a0.2.1, a0.2.2.1, a0.2.2.2.1, a0.2.2.2.2.1, a0.2.2.2.2.2.1, a0.2.2.2.2.2.2), v646, (X0_2, X0_3)), ⟨hv647, hE0_2, P25.cap (P25.of hF0_2 hC0_2), hE0_3, P105.cap (P105.of hF0_3 hC0_3)⟩, ⟨(rdsOk_app.2 ⟨(rdsOk_app.2 ⟨trivial, P25.rds (P25.of hF0_2 hC0_2)⟩), P105.rds (P105.of hF0_3 hC0_3)⟩)⟩, ?_⟩
                 refine And.intro ⟨rfl⟩ ?_
                 iterate 11 refine mo1E8 ?_
                 intro q648 g649 hq650 hok651 hrd652
                 obtain ⟨X655, X659⟩ := g649
                 obtain ⟨hE656, hC653, hE660, hC657⟩ := hok651
                 obtain ⟨hrd652, hF658⟩ := rdsOk_app.1 hrd652
                 obtain ⟨hrd652, hF654⟩ := rdsOk_app.1 hrd652
                 try dsimp only at hC653 hF654 hE656 hC657 hF658 hE660
                 have hfin := fin_st H
                 subst hfin
                 refine ⟨(X655, X659), ⟨⟨hE656, P25.cap (P25.of hF654 hC653), hE660, P105.cap (P105.of hF658 hC657)⟩⟩, ⟨(rdsOk_app.2 ⟨(rdsOk_app.2 ⟨trivial, P25.rds (P25.of hF654 hC653)⟩), P105.rds (P105.of hF658 hC657)⟩)⟩, ?_⟩
                 repeat refine mo1E8 ?_
                 first | exact trivial | exact rfl
                ·refine if_st H (fun h661 H => ?_) (fun h661 H => ?_)
                 ·obtain ⟨v662, hv663, H⟩ := call_st H
                  refine ⟨(((a0.1.1, a0.1.2.1, a0.1.2.2.1, a0.1.2.2.2), a0.2.1, a0.2.2.1, a0.2.2.2.1, a0.2.2.2.2.1, a0.2.2.2.2.2.1, a0.2.2.2.2.2.2), 0, v3, v662, (X0_2, X0_3)), ⟨hv663, hE0_2, P25.cap (P25.of hF0_2 hC0_2), hE0_3, P105.cap (P105.of hF0_3 hC0_3)⟩, ⟨(rdsOk_app.2 ⟨(rdsOk_app.2 ⟨trivial, P25.rds (P25.of hF0_2 hC0_2)⟩), P105.rds (P105.of hF0_3 hC0_3)⟩)⟩, ?_⟩
                  iterate 3 refine And.intro ⟨rfl⟩ ?_
                  iterate 11 refine mo1E8 ?_
                  intro q664 g665 hq666 hok667 hrd668
                  obtain ⟨X671, X675⟩ := g665
                  obtain ⟨hE672, hC669, hE676, hC673⟩ := hok667
                  obtain ⟨hrd668, hF674⟩ := rdsOk_app.1 hrd668
                  obtain ⟨hrd668, hF670⟩ := rdsOk_app.1 hrd668
                  try dsimp only at hC669 hF670 hE672 hC673 hF674 hE676
                  have hfin := fin_st H
                  subst hfin
                  refine ⟨(X671, X675), ⟨⟨hE672, P25.cap (P25.of hF670 hC669), hE676, P105.cap (P105.of hF674 hC673)⟩⟩, ⟨(rdsOk_app.2 ⟨(rdsOk_app.2 ⟨trivial, P25.rds (P25.of hF670 hC669)⟩), P105.rds (P105.of hF674 hC673)⟩)⟩, ?_⟩
                  repeat refine mo1E8 ?_
                  first | exact trivial | exact rfl
                 ·have hfin := fin_st H
                  subst hfin
                  refine ⟨(X0_2, X0_3), ⟨⟨hE0_2, P25.cap (P25.of hF0_2 hC0_2), hE0_3, P105.cap (P105.of hF0_3 hC0_3)⟩⟩, ⟨(rdsOk_app.2 ⟨(rdsOk_app.2 ⟨trivial, P25.rds (P25.of hF0_2 hC0_2)⟩), P105.rds (P105.of hF0_3 hC0_3)⟩)⟩, ?_⟩
                  repeat refine mo1E8 ?_
                  first | exact trivial | exact rfl
end Go.Proofs.Ytenjkphlbdhaiaa
end
section
namespace Go.Proofs.Ytenjkphlbdhaiaa
open Go Go.Eng
theorem mo1E9 {p q : Prop} (k : q) (h : p := by first | exact rfl | exact Iff.rfl | exact ⟨rfl, rfl⟩ | exact decide_eq_true_iff | (constructor <;> first | exact rfl | (simp only [ei, eb, es, ec, c25, c105, c135, gmin, gmax, List.map_append, List.flatMap_append, List.nil_append, List.append_nil, List.append_assoc]; done) | omega | (simp only [List.nil_append, List.length_append, List.length_cons, List.length_nil]; omega) | (simp [ei, eb, es, ec, c25, c105, c135, gmin, gmax]; done)) | exact rfl | (simp only [ei, eb, es, ec, c25, c105, c135, gmin, gmax, List.map_append, List.flatMap_append, List.nil_append, List.append_nil, List.append_assoc]; done) | omega | (simp only [List.nil_append, List.length_append, List.length_cons, List.length_nil]; omega) | (simp [ei, eb, es, ec, c25, c105, c135, gmin, gmax]; done) | simp [ei, eb, es, ec, c25, c105, c135, gmin, gmax]) : Ob p ∧ q := ⟨⟨h⟩, k⟩
theorem mf1E9 {p q : Prop} (k : q) (h : p := by first | (rw [← hfin] <;> first | exact rfl | exact Iff.rfl | exact ⟨rfl, rfl⟩ | exact decide_eq_true_iff | (constructor <;> first | exact rfl | (simp only [ei, eb, es, ec, c25, c105, c135, gmin, gmax, List.map_append, List.flatMap_append, List.nil_append, List.append_nil, List.append_assoc]; done) | omega | (simp only [List.nil_append, List.length_append, List.length_cons, List.length_nil]; omega) | (simp [ei, eb, es, ec, c25, c105, c135, gmin, gmax]; done)) | exact rfl | (simp only [ei, eb, es, ec, c25, c105, c135, gmin, gmax, List.map_append, List.flatMap_append, List.nil_append, List.append_nil, List.append_assoc]; done) | omega | (simp only [List.nil_append, List.length_append, List.length_cons, List.length_nil]; omega) | (simp [ei, eb, es, ec, c25, c105, c135, gmin, gmax]; done) | simp [ei, eb, es, ec, c25, c105, c135, gmin, gmax]) | first | exact rfl | exact Iff.rfl | exact ⟨rfl, rfl⟩ | exact decide_eq_true_iff | (constructor <;> first | exact rfl | (simp only [ei, eb, es, ec, c25, c105, c135, gmin, gmax, List.map_append, List.flatMap_append, List.nil_append, List.append_nil, List.append_assoc]; done) | omega | (simp only [List.nil_append, List.length_append, List.length_cons, List.length_nil]; omega) | (simp [ei, eb, es, ec, c25, c105, c135, gmin, gmax]; done)) | exact rfl | (simp only [ei, eb, es, ec, c25, c105, c135, gmin, gmax, List.map_append, List.flatMap_append, List.nil_append, List.append_nil, List.append_assoc]; done) | omega | (simp only [List.nil_append, List.length_append, List.length_cons, List.length_nil]; omega) | (simp [ei, eb, es, ec, c25, c105, c135, gmin, gmax]; done) | simp [ei, eb, es, ec, c25, c105, c135, gmin, gmax]) : Ob p ∧ q := ⟨⟨h⟩, k⟩
noncomputable def g28 (a0 : (Int × List ByteArray × Int × Int)) (a1 : Int) (a2 : ByteArray) : Option (Int × (Int × List ByteArray × Int × Int)) :=
 (g47 (a0.1, a0.2.1, a0.2.2.1, a0.2.2.2)).bind fun v14 =>
 if ¬ (v14 = true) then
  some (4, (a0.1, a0.2.1, a0.2.2.1, a0.2.2.2))
 else
  (
   if a1 < 0 then
    some (5, (a0.1, a0.2.1, a0.2.2.1, a0.2.2.2))
   else
    (
     (g48 (a0.1, a0.2.1, a0.2.2.1, a0.2.2.2)).bind fun v18 =>
     if v18 ≤ a1 then
      some (5, (a0.1, a0.2.1, a0.2.2.1, a0.2.2.2))
     else
      (
       (g56 a2).bind fun v21 =>
       if ¬ (v21 = true) then
        some (1, (a0.1, a0.2.1, a0.2.2.1, a0.2.2.2))
       else
        (
         (g62 (a0.1, a0.2.1, a0.2.2.1, a0.2.2.2) a1).bind fun v24 =>
         ck (0 ≤ v24 ∧ v24 < ((a0.2.1.length : Nat) : Int)) <|
         some (0, (a0.1, (a0.2.1.set v24.toNat a2), a0.2.2.1, a0.2.2.2))
        )
      )
    )
  )
noncomputable def k28 : Eng.CS := { f := 28, calm := false, more := 3, ι := (Int × List ByteArray × Int × Int) × Int × ByteArray × (Int × (Int × List ByteArray × Int × Int)), ok := fun i => g28 i.1 i.2.1 i.2.2.1 = some i.2.2.2, rds := fun _ => [], args := fun i => [.w (.lp 0 0), .w (.v (.int .i64 (i.2.1))), .w (.v (.string (i.2.2.1)))], res := fun i => .v (.int .i64 (i.2.2.2.1)), L' := fun i => [(0, .cells 43 [.v (.int .i64 (i.2.2.2.2.1)), .own 2, .v (.int .i64 (i.2.2.2.2.2.2.1)), .v (.int .i64 (i.2.2.2.2.2.2.2))]), (2, .arr 9 1 i.2.2.2.2.2.1.length (es i.2.2.2.2.2.1))], rn := [(100000, 1, 9, 1)], keys := 2, L := fun i => [(0, .cells 43 [.v (.int .i64 (i.1.1)), .own 1, .v (.int .i64 (i.1.2.2.1)), .v (.int .i64 (i.1.2.2.2))]), (1, .arr 9 1 i.1.2.1.length (es i.1.2.1))] }
set_option maxRecDepth 8000 in
set_option maxHeartbeats 4000000 in
theorem k28_ok : CSOk Try.prog k28 := by
 refine R.cspec Try.func28 nm28 rfl ?_
 rintro ⟨a0, a1, a2, r⟩ hok q _ args hargs
 dsimp only [k28] at hargs ⊢
 match args, hargs with
 | [_, _, _], hargs =>
 obtain ⟨rfl, rfl, rfl, _⟩ := hargs
 refine ⟨envC [k47, k48, k56, k62] false [], 6, envC_ok (css_cons ⟨fun _ => k47_ok, fun h => (by cases h)⟩ (css_cons ⟨fun _ => k48_ok, fun h => (by cases h)⟩ (css_cons ⟨fun _ => k56_ok, fun h => (by cases h)⟩ (css_cons ⟨fun _ => k62_ok, fun h => (by cases h)⟩ (css_nil))))), ?_⟩
 have H : Gives (g28 a0 a1 a2) (fun a => a = r) := ⟨r, hok, rfl⟩
 unfold g28 at H
 clear hok
 obtain ⟨v14, hv15, H⟩ := call_st H
 refine ⟨((a0.1, a0.2.1, a0.2.2.1, a0.2.2.2), v14), ⟨hv15⟩, ⟨trivial⟩, ?_⟩
 iterate 4 refine mo1E9 ?_
 refine if_st H (fun h16 H => ?_) (fun h16 H => ?_)
 ·have hfin := fin_st H
  repeat refine mf1E9 ?_
  first | exact trivial | exact rfl
 ·refine if_st H (fun h17 H => ?_) (fun h17 H => ?_)
  ·have hfin := fin_st H
   repeat refine mf1E9 ?_
   first | exact trivial | exact rfl
  ·obtain ⟨v18, hv19, H⟩ := call_st H
   refine ⟨((a0.1, a0.2.1, a0.2.2.1, a0.2.2.2), v18), ⟨hv19⟩, ⟨trivial⟩, ?_⟩
   iterate 4 refine mo1E9 ?_
   refine if_st H (fun h20 H => ?_) (fun h20 H => ?_)
   ·have hfin := fin_st H
    repeat refine mf1E9 ?_
    first | exact trivial | exact rfl
   ·obtain ⟨v21, hv22, H⟩ := call_st H
    refine ⟨(a2, v21), ⟨hv22⟩, ⟨trivial⟩, ?_⟩
    refine And.intro ⟨rfl⟩ ?_
    refine if_st H (fun h23 H => ?_) (fun h23 H => ?_)
    ·have hfin := fin_st H
     repeat refine mf1E9 ?_
     first | exact trivial | exact rfl
    ·refine And.intro ⟨by kernel_rfl⟩ ?_
     refine ⟨(Pn.calm 0 (Pn.calm 1 (Pn.calm 2 (Pn.calm 3 (Pn.calm 4 (Pn.calm 5 (Pn.calm 6 (Pn.calm 7 (Pn.calm 8 (Pn.eff 9 [8, 7, 6, 0, 1, 2, 3, 4, 5] Pn.done Pn.no)))))))))), ⟨by kernel_rfl⟩, ?_⟩
     obtain ⟨v24, hv25, H⟩ := call_st H
     refine ⟨((a0.1, a0.2.1, a0.2.2.1, a0.2.2.2), a1, v24), ⟨hv25⟩, ⟨trivial⟩, ?_⟩
     iterate 4 refine mo1E9 ?_
     refine And.intro ⟨rfl⟩ ?_
     refine ob_ck H fun h26 H => ?_
     refine And.intro ?_ trivial
     refine And.intro ⟨by first | (have := tn h26; simp [ei, eb, es, ec, c25, c105, c135] at this ⊢; omega) | (have := tn h26; simp [ei, eb, es, ec, c25, c105, c135]; omega)⟩ ?_
     intro n27 zs29 hn28 hz30
     subst hn28
     have hl31 : (a0.2.1.set v24.toNat a2).length = a0.2.1.length := List.length_set
     obtain rfl : zs29 = es (a0.2.1.set v24.toNat a2) := hz30.trans es_set.symm
     refine And.intro ⟨fun _ _ _ h => h⟩ ?_
     have hfin := fin_st H
     repeat refine mf1E9 ?_
     first | exact trivial | exact rfl
end Go.Proofs.Ytenjkphlbdhaiaa
end
section
namespace Go.Proofs.Ytenjkphlbdhaiaa
open Go Go.Eng
theorem mo1E10 {p q : Prop} (k : q) (h : p := by first | exact rfl | exact Iff.rfl | exact ⟨rfl, rfl⟩ | exact decide_eq_true_iff | (constructor <;> first | exact rfl | (simp only [ei, eb, es, ec, c25, c105, c135, gmin, gmax, List.map_append, List.flatMap_append, List.nil_append, List.append_nil, List.append_assoc]; done) | omega | (simp only [List.nil_append, List.length_append, List.length_cons, List.length_nil]; omega) | (simp [ei, eb, es, ec, c25, c105, c135, gmin, gmax]; done)) | exact rfl | (simp only [ei, eb, es, ec, c25, c105, c135, gmin, gmax, List.map_append, List.flatMap_append, List.nil_append, List.append_nil, List.append_assoc]; done) | omega | (simp only [List.nil_append, List.length_append, List.length_cons, List.length_nil]; omega) | (simp [ei, eb, es, ec, c25, c105, c135, gmin, gmax]; done) | simp [ei, eb, es, ec, c25, c105, c135, gmin, gmax]) : Ob p ∧ q := ⟨⟨h⟩, k⟩
noncomputable def g39 (a0 : ((Int × List ByteArray × Int × Int) × List (List ByteArray) × List ((List ByteArray) × Int) × Bool × Bool × Int × Int)) (a1 : ByteArray) : Option (Bool × ((Int × List ByteArray × Int × Int) × List (List ByteArray) × List ((List ByteArray) × Int) × Bool × Bool × Int × Int)) :=
 (g68 a1).bind fun v1 =>
 (g67 v1).bind fun v3 =>
 jn (α := _) (β := List ByteArray) (fun k35 =>
   (g20 (a0.1.1, a0.1.2.1, a0.1.2.2.1, a0.1.2.2.2)).bind fun v36 =>
   (g18 (a0.1.1, a0.1.2.1, a0.1.2.2.1, a0.1.2.2.2)).bind fun v38 =>
   ck (inR .i64 (v36 + v38)) <|
   if (v36 + v38) < ((v3.length : Nat) : Int) then
    (
     ck (0 ≤ (0 : Int) ∧ (0 : Int) ≤ v36 + v38 ∧ v36 + v38 ≤ ((v3.length : Nat) : Int)) <|
     k35 ((v3.drop ((0 : Int).toNat)).take ((v36 + v38).toNat - (0 : Int).toNat))
    )
   else
    k35 v3
 ) (fun v34 =>
  (g11 (a0.1.1, a0.1.2.1, a0.1.2.2.1, a0.1.2.2.2)).bind fun v72 =>
  (g79 v34 v72).bind fun v74 =>
  if v74 = true then
   some (false, ((a0.1.1, a0.1.2.1, a0.1.2.2.1, a0.1.2.2.2), a0.2.1, a0.2.2.1, false, false, a0.2.2.2.2.2.1, a0.2.2.2.2.2.2))
  else
   (
    (g69 ((a0.1.1, a0.1.2.1, a0.1.2.2.1, a0.1.2.2.2), a0.2.1, a0.2.2.1, false, false, a0.2.2.2.2.2.1, a0.2.2.2.2.2.2)).bind fun v77 =>
    (g80 ((v77.1.1, v77.1.2.1, v77.1.2.2.1, v77.1.2.2.2), v77.2.1, v77.2.2.1, v77.2.2.2.1, v77.2.2.2.2.1, v77.2.2.2.2.2.1, v77.2.2.2.2.2.2) v34 ((v34.length : Nat) : Int)).bind fun v92 =>
    some (true, ((v92.1.1, v92.1.2.1, v92.1.2.2.1, v92.1.2.2.2), v92.2.1, v92.2.2.1, v92.2.2.2.1, v92.2.2.2.2.1, v92.2.2.2.2.2.1, v92.2.2.2.2.2.2))
   )
 )
noncomputable def k39 : Eng.CS := { f := 39, calm := false, more := 8, ι := ((Int × List ByteArray × Int × Int) × List (List ByteArray) × List ((List ByteArray) × Int) × Bool × Bool × Int × Int) × ByteArray × (Bool × ((Int × List ByteArray × Int × Int) × List (List ByteArray) × List ((List ByteArray) × Int) × Bool × Bool × Int × Int)) × (List ((Option Addr × Nat) × List ByteArray) × List (((Option Addr × Nat) × List ByteArray) × Int)), ok := fun i => g39 i.1 i.2.1 = some i.2.2.1 ∧ i.2.2.2.1.map e25 = i.1.2.1 ∧ (∀ p ∈ i.2.2.2.1, cap25 p) ∧ i.2.2.2.2.map e105 = i.1.2.2.1 ∧ (∀ p ∈ i.2.2.2.2, cap105 p), rds := fun i => [] ++ (i.2.2.2.1).flatMap R25 ++ (i.2.2.2.2).flatMap R105, args := fun i => [.w (.lp 0 0), .w (.v (.string (i.2.1)))], res := fun _ => .bad, rn := [(100001, 1, 9, 1), (100000, 1, 25, 1), (100000, 2, 105, 2)], keys := 5, L := fun i => [(0, .cells 73 [.lp 1 0, .own 2, .own 3, bS i.1.2.2.2.1, bS i.1.2.2.2.2.1, .v (.int .i64 (i.1.2.2.2.2.2.1)), .v (.int .i64 (i.1.2.2.2.2.2.2))]), (1, .cells 43 [.v (.int .i64 (i.1.1.1)), .own 4, .v (.int .i64 (i.1.1.2.2.1)), .v (.int .i64 (i.1.1.2.2.2))]), (4, .arr 9 1 i.1.1.2.1.length (es i.1.1.2.1)), (2, .arr 25 1 i.1.2.1.length (ec c25 i.2.2.2.1)), (3, .arr 105 2 i.1.2.2.1.length (ec c105 i.2.2.2.2))], gr := true, γ := (List ((Option Addr × Nat) × List ByteArray)) × (List (((Option Addr × Nat) × List ByteArray) × Int)), resG := fun i _ => bS i.2.2.1.1, LG := fun i g => [(0, .cells 73 [.lp 1 0, .own 5, .own 6, bS i.2.2.1.2.2.2.2.1, bS i.2.2.1.2.2.2.2.2.1, .v (.int .i64 (i.2.2.1.2.2.2.2.2.2.1)), .v (.int .i64 (i.2.2.1.2.2.2.2.2.2.2))]), (1, .cells 43 [.v (.int .i64 (i.2.2.1.2.1.1)), .own 7, .v (.int .i64 (i.2.2.1.2.1.2.2.1)), .v (.int .i64 (i.2.2.1.2.1.2.2.2))]), (7, .arr 9 1 i.2.2.1.2.1.2.1.length (es i.2.2.1.2.1.2.1)), (5, .arr 25 1 i.2.2.1.2.2.1.length (ec c25 g.1)), (6, .arr 105 2 i.2.2.1.2.2.2.1.length (ec c105 g.2))], okG := fun i g => g.1.map e25 = i.2.2.1.2.2.1 ∧ (∀ p ∈ g.1, cap25 p) ∧ g.2.map e105 = i.2.2.1.2.2.2.1 ∧ (∀ p ∈ g.2, cap105 p), rdsG := fun i g => [] ++ (g.1).flatMap R25 ++ (g.2).flatMap R105, fzr := [] }
set_option maxRecDepth 8000 in
set_option maxHeartbeats 4000000 in
theorem k39_ok : CSOk Try.prog k39 := by
 refine R.cspecG Try.func39 nm39 rfl rfl (fun _ => rfl) ?_
 rintro ⟨a0, a1, r, ⟨X0_2, X0_3⟩⟩ ⟨hok, hE0_2, hC0_2, hE0_3, hC0_3⟩ q hrds args hargs
 obtain ⟨hrds, hF0_3⟩ := rdsOk_app.1 hrds
 obtain ⟨hrds, hF0_2⟩ := rdsOk_app.1 hrds
 dsimp only at hC0_2 hF0_2 hE0_2 hC0_3 hF0_3 hE0_3
 dsimp only [k39] at hargs ⊢
 match args, hargs with
 | [_, _], hargs =>
 obtain ⟨rfl, rfl, _⟩ := hargs
 refine ⟨envC [k11, k18, k20, k67, k68, k69, k79, k80] false [(39, 8)], 6, envC_ok (css_cons ⟨fun h => (by cases h), fun _ => k11_ok⟩ (css_cons ⟨fun _ => k18_ok, fun h => (by cases h)⟩ (css_cons ⟨fun _ => k20_ok, fun h => (by cases h)⟩ (css_cons ⟨fun h => (by cases h), fun _ => k67_ok⟩ (css_cons ⟨fun _ => k68_ok, fun h => (by cases h)⟩ (css_cons ⟨fun h => (by cases h), fun _ => k69_ok⟩ (css_cons ⟨fun _ => k79_ok, fun h => (by cases h)⟩ (css_cons ⟨fun h => (by cases h), fun _ => k80_ok⟩ (css_nil))))))))), ?_⟩
 have H : Gives (g39 a0 a1) (fun a => a = r) := ⟨r, hok, rfl⟩
 unfold g39 at H
 clear hok
 obtain ⟨v1, hv2, H⟩ := call_st H
 refine ⟨(a1, v1), ⟨hv2⟩, ⟨trivial⟩, ?_⟩
 refine And.intro ⟨rfl⟩ ?_
 obtain ⟨v3, hv4, H⟩ := call_st H
 refine ⟨(v1, v3), ⟨hv4⟩, ⟨trivial⟩, ?_⟩
 refine And.intro ⟨rfl⟩ ?_
 refine R.cut_famXG H 56 [0] [] [(5, 0)] (fun (v34 : List ByteArray) (g : (Option Addr × Nat)) => [(5, .v (.slice ((g.1)) (v34.length) ((g.2))))]) (fun (v34 : List ByteArray) (g : (Option Addr × Nat)) => []) [(0, .cells 73 [.lp 1 0, .own 2, .own 3, .bb false, .bb false, .v (.int .i64 (a0.2.2.2.2.2.1)), .v (.int .i64 (a0.2.2.2.2.2.2))]), (1, .cells 43 [.v (.int .i64 (a0.1.1)), .own 4, .v (.int .i64 (a0.1.2.2.1)), .v (.int .i64 (a0.1.2.2.2))]), (4, .arr 9 1 (a0.1.2.1.length) (es (a0.1.2.1))), (2, .arr 25 1 (a0.2.1.length) (ec c25 (X0_2))), (3, .arr 105 2 (a0.2.2.1.length) (ec c105 (X0_3)))] 0 (fun q (v34 : List ByteArray) (g : (Option Addr × Nat)) => Reads q g.1 (es v34) ∧ v34.length ≤ g.2) (fun H => ?_)
 refine And.intro ?_ ?_
 ·refine And.intro ⟨by kernel_rfl⟩ ?_
  obtain ⟨v36, hv37, H⟩ := call_st H
  refine ⟨((a0.1.1, a0.1.2.1, a0.1.2.2.1, a0.1.2.2.2), v36), ⟨hv37⟩, ⟨trivial⟩, ?_⟩
  iterate 4 refine mo1E10 ?_
  obtain ⟨v38, hv39, H⟩ := call_st H
  refine ⟨((a0.1.1, a0.1.2.1, a0.1.2.2.1, a0.1.2.2.2), v38), ⟨hv39⟩, ⟨trivial⟩, ?_⟩
  iterate 4 refine mo1E10 ?_
  refine ob_ck H fun h40 H => ?_
  refine if_st H (fun h41 H => ?_) (fun h41 H => ?_)
  ·refine ob_ck H fun h42 H => ?_
   try dsimp only at h42
   intro n43 hn44
   subst hn44
   refine And.intro ⟨by first | omega | (dsimp only; omega)⟩ ?_
   intro q45 A46 c47 A51 c52 n55 hq48 hc53 hR54 hn56 hc49 hR50
   obtain rfl : n55 = ((v3.drop ((0 : Int).toNat)).take ((v36 + v38).toNat - (0 : Int).toNat)).length := hn56.trans (len_vw (by first | omega | (dsimp only; omega) | (dsimp only at *; omega))).symm
   rw [es_vw] at hR50
   refine ⟨(((v3.drop ((0 : Int).toNat)).take ((v36 + v38).toNat - (0 : Int).toNat)), (A46, c47)), ⟨H, hR50, hc49⟩, ⟨fun _ _ _ h => (hq48 _ _ _ h)⟩, ?_⟩
   repeat refine mo1E10 ?_
   first | exact trivial | exact rfl
  ·intro q57 A58 c59 hq60 hc61 hR62
   replace hR62 : Reads q57 A58 (es v3) := Eq.mp (congrArg (Reads q57 A58) (by first | exact rfl | (simp only [ei, eb, es, ec, c25, c105, c135, gmin, gmax, List.map_append, List.flatMap_append, List.nil_append, List.append_nil, List.append_assoc]; done))) hR62
   refine ⟨(v3, (A58, c59)), ⟨H, hR62, hc61⟩, ⟨fun _ _ _ h => (hq60 _ _ _ h)⟩, ?_⟩
   repeat refine mo1E10 ?_
   first | exact trivial | exact rfl
 ·rintro q33 hq32 ⟨v34, ⟨A63, c64⟩⟩ ⟨H, hR65, hc66⟩
  dsimp only at H hR65 hc66
  obtain ⟨v72, hv73, H⟩ := call_st H
  refine ⟨((a0.1.1, a0.1.2.1, a0.1.2.2.1, a0.1.2.2.2), v72), ⟨hv73⟩, ⟨trivial⟩, ?_⟩
  iterate 4 refine mo1E10 ?_
  obtain ⟨v74, hv75, H⟩ := call_st H
  refine ⟨(v34, v72, v74), ⟨hv75⟩, ⟨trivial⟩, ?_⟩
  refine And.intro ⟨rfl, hc66, es_len.trans ((show _ = _ from rfl).trans (Nat.mul_one _).symm), hR65⟩ ?_
  refine And.intro ⟨by first | rfl | (simp; done), by first | rfl | (simp [ei, eb, es, ec, c25, c105, c135]; done) | (simp only [ei, eb, es, ec, c25, c105, c135, List.map_append, List.nil_append, List.append_assoc]; rfl)⟩ ?_
  refine if_st H (fun h76 H => ?_) (fun h76 H => ?_)
  ·have hfin := fin_st H
   subst hfin
   refine ⟨(X0_2, X0_3), ⟨⟨hE0_2, P25.cap (fun p hp => P25.mono hq32 ((P25.of hF0_2 hC0_2) p hp)), hE0_3, P105.cap (fun p hp => P105.mono hq32 ((P105.of hF0_3 hC0_3) p hp))⟩⟩, ⟨(rdsOk_app.2 ⟨(rdsOk_app.2 ⟨trivial, P25.rds (fun p hp => P25.mono hq32 ((P25.of hF0_2 hC0_2) p hp))⟩), P105.rds (fun p hp => P105.mono hq32 ((P105.of hF0_3 hC0_3) p hp))⟩)⟩, ?_⟩
   repeat refine mo1E10 ?_
   first | exact trivial | exact rfl
  ·obtain ⟨v77, hv78, H⟩ := call_st H
   refine ⟨(((a0.1.1, a0.1.2.1, a0.1.2.2.1, a0.1.2.2.2), a0.2.1, a0.2.2.1, false, false, a0.2.2.2.2.2.1, a0.2.2.2.2.2.2), v77, (X0_2, X0_3)), ⟨hv78, hE0_2, P25.cap (fun p hp => P25.mono hq32 ((P25.of hF0_2 hC0_2) p hp)), hE0_3, P105.cap (fun p hp => P105.mono hq32 ((P105.of hF0_3 hC0_3) p hp))⟩, ⟨(rdsOk_app.2 ⟨(rdsOk_app.2 ⟨trivial, P25.rds (fun p hp => P25.mono hq32 ((P25.of hF0_2 hC0_2) p hp))⟩), P105.rds (fun p hp => P105.mono hq32 ((P105.of hF0_3 hC0_3) p hp))⟩)⟩, ?_⟩
   refine And.intro ⟨rfl⟩ ?_
   iterate 11 refine mo1E10 ?_
   intro q79 g80 hq81 hok82 hrd83
   obtain ⟨X86, X90⟩ := g80
   obtain ⟨hE87, hC84, hE91, hC88⟩ := hok82
   obtain ⟨hrd83, hF89⟩ := rdsOk_app.1 hrd83
   obtain ⟨hrd83, hF85⟩ := rdsOk_app.1 hrd83
   try dsimp only at hC84 hF85 hE87 hC88 hF89 hE91
   obtain ⟨v92, hv93, H⟩ := call_st H
   refine ⟨(((v77.1.1, v77.1.2.1, v77.1.2.2.1, v77.1.2.2.2), v77.2.1, v77.2.2.1, v77.2.2.2.1, v77.2.2.2.2.1, v77.2.2.2.2.2.1, v77.2.2.2.2.2.2), v34, ((v34.length : Nat) : Int), v92, (A63, c64), (X86, X90)), ⟨hv93, hc66, hE87, P25.cap (P25.of hF85 hC84), hE91, P105.cap (P105.of hF89 hC88)⟩, ⟨(rdsOk_app.2 ⟨(rdsOk_app.2 ⟨⟨(Reads.mono hq81 hR65), trivial⟩, P25.rds (P25.of hF85 hC84)⟩), P105.rds (P105.of hF89 hC88)⟩)⟩, ?_⟩
   iterate 3 refine And.intro ⟨rfl⟩ ?_
   iterate 11 refine mo1E10 ?_
   intro q94 g95 hq96 hok97 hrd98
   obtain ⟨X101, X105⟩ := g95
   obtain ⟨hE102, hC99, hE106, hC103⟩ := hok97
   obtain ⟨hrd98, hF104⟩ := rdsOk_app.1 hrd98
   obtain ⟨hrd98, hF100⟩ := rdsOk_app.1 hrd98
   try dsimp only at hC99 hF100 hE102 hC103 hF104 hE106
   have hfin := fin_st H
   subst hfin
   refine ⟨(X101, X105), ⟨⟨hE102, P25.cap (P25.of hF100 hC99), hE106, P105.cap (P105.of hF104 hC103)⟩⟩, ⟨(rdsOk_app.2 ⟨(rdsOk_app.2 ⟨trivial, P25.rds (P25.of hF100 hC99)⟩), P105.rds (P105.of hF104 hC103)⟩)⟩, ?_⟩
   repeat refine mo1E10 ?_
   first | exact trivial | exact rfl
end Go.Proofs.Ytenjkphlbdhaiaa
end
section
namespace Go.Proofs.Ytenjkphlbdhaiaa
open Go Go.Eng
theorem mo1E11 {p q : Prop} (k : q) (h : p := by first | exact rfl | exact Iff.rfl | exact ⟨rfl, rfl⟩ | exact decide_eq_true_iff | (constructor <;> first | exact rfl | (simp only [ei, eb, es, ec, c25, c105, c135, gmin, gmax, List.map_append, List.flatMap_append, List.nil_append, List.append_nil, List.append_assoc]; done) | omega | (simp only [List.nil_append, List.length_append, List.length_cons, List.length_nil]; omega) | (simp [ei, eb, es, ec, c25, c105, c135, gmin, gmax]; done)) | exact rfl | (simp only [ei, eb, es, ec, c25, c105, c135, gmin, gmax, List.map_append, List.flatMap_append, List.nil_append, List.append_nil, List.append_assoc]; done) | omega | (simp only [List.nil_append, List.length_append, List.length_cons, List.length_nil]; omega) | (simp [ei, eb, es, ec, c25, c105, c135, gmin, gmax]; done) | simp [ei, eb, es, ec, c25, c105, c135, gmin, gmax]) : Ob p ∧ q := ⟨⟨h⟩, k⟩
noncomputable def g32 (a0 : ((Int × List ByteArray × Int × Int) × List (List ByteArray) × List ((List ByteArray) × Int) × Bool × Bool × Int × Int)) (a1 : ByteArray) : Option (Bool × ((Int × List ByteArray × Int × Int) × List (List ByteArray) × List ((List ByteArray) × Int) × Bool × Bool × Int × Int)) :=
 jn (α := _) (β := ByteArray × ByteArray) (fun k350 =>
   (g13 (a0.1.1, a0.1.2.1, a0.1.2.2.1, a0.1.2.2.2)).bind fun v351 =>
   ck (inR .i64 (v351 - 1)) <|
   (g24 (a0.1.1, a0.1.2.1, a0.1.2.2.1, a0.1.2.2.2) (v351 - 1)).bind fun v354 =>
   if ¬ (v354.2 = true) then
    k350 ((lit []), (lit []))
   else
    (
     jn (α := _) (β := ByteArray) (fun k437 =>
       ck (a1.size ≤ 140737488355328) <|
       (loopO (σ := ByteArray × Int) (ρ := (ByteArray) ⊕ (ByteArray)) (fun s449 =>
         if s449.2 < (((bytesOf a1).length : Nat) : Int) then
          (
           ck (0 ≤ s449.2 ∧ s449.2 ≤ (((bytesOf a1).length : Nat) : Int) ∧ (((bytesOf a1).length : Nat) : Int) ≤ (((bytesOf a1).length : Nat) : Int)) <|
           (g131 (((bytesOf a1).drop s449.2.toNat).take ((((bytesOf a1).length : Nat) : Int).toNat - s449.2.toNat))).bind fun v497 =>
           if v497.2.2 = true then
            (
             (g96 65533).bind fun v500 =>
             if 0 < v500 then
              some (.out (.inl (s449.1)))
             else
              (
               (g97 s449.1 65533).bind fun v503 =>
               ck (inR .i64 (s449.2 + 1)) <|
               some (.go (v503.1, s449.2 + 1))
              )
            )
           else
            (
             (g96 v497.1).bind fun v506 =>
             if 0 < v506 then
              some (.out (.inl (s449.1)))
             else
              (
               (g97 s449.1 v497.1).bind fun v509 =>
               ck (inR .i64 (s449.2 + v497.2.1)) <|
               some (.go (v509.1, s449.2 + v497.2.1))
              )
            )
          )
         else
          some (.out (.inr (s449.1)))
        ) (v354.1, 0)).bind fun o491 =>
       sm o491 (fun o512 =>
         k437 o512
        ) (fun o513 =>
         k437 o513
        )
     ) (fun v436 =>
      k350 (v354.1, v436)
     )
    )
 ) (fun v349 =>
  (g68 a1).bind fun v515 =>
  (g67 v515).bind fun v517 =>
  jn (α := _) (β := Unit) (fun k534 =>
    (g18 (a0.1.1, a0.1.2.1, a0.1.2.2.1, a0.1.2.2.2)).bind fun v535 =>
    if v535 < ((v517.length : Nat) : Int) then
     some (false, ((a0.1.1, a0.1.2.1, a0.1.2.2.1, a0.1.2.2.2), a0.2.1, a0.2.2.1, false, false, a0.2.2.2.2.2.1, a0.2.2.2.2.2.2))
    else
     (
      if v349.1.data.toList = v349.2.data.toList then
       (
        if ((v517.length : Nat) : Int) = 0 then
         some (false, ((a0.1.1, a0.1.2.1, a0.1.2.2.1, a0.1.2.2.2), a0.2.1, a0.2.2.1, false, false, a0.2.2.2.2.2.1, a0.2.2.2.2.2.2))
        else
         k534 ()
       )
      else
       k534 ()
     )
  ) (fun v533 =>
   (g69 ((a0.1.1, a0.1.2.1, a0.1.2.2.1, a0.1.2.2.2), a0.2.1, a0.2.2.1, false, false, a0.2.2.2.2.2.1, a0.2.2.2.2.2.2)).bind fun v540 =>
   if ¬ (v349.1.data.toList = v349.2.data.toList) then
    (
     (g13 (v540.1.1, v540.1.2.1, v540.1.2.2.1, v540.1.2.2.2)).bind fun v562 =>
     ck (inR .i64 (v562 - 1)) <|
     (g28 (v540.1.1, v540.1.2.1, v540.1.2.2.1, v540.1.2.2.2) (v562 - 1) v349.2).bind fun v565 =>
     (g21 (v565.2.1, v565.2.2.1, v565.2.2.2.1, v565.2.2.2.2) v517).bind fun v567 =>
     some (true, ((v567.2.1, v567.2.2.1, v567.2.2.2.1, v567.2.2.2.2), v540.2.1, v540.2.2.1, v540.2.2.2.1, v540.2.2.2.2.1, v540.2.2.2.2.2.1, v540.2.2.2.2.2.2))
    )
   else
    (
     (g21 (v540.1.1, v540.1.2.1, v540.1.2.2.1, v540.1.2.2.2) v517).bind fun v569 =>
     some (true, ((v569.2.1, v569.2.2.1, v569.2.2.2.1, v569.2.2.2.2), v540.2.1, v540.2.2.1, v540.2.2.2.1, v540.2.2.2.2.1, v540.2.2.2.2.2.1, v540.2.2.2.2.2.2))
    )
  )
 )
noncomputable def k32 : Eng.CS := { f := 32, calm := false, more := 8, ι := ((Int × List ByteArray × Int × Int) × List (List ByteArray) × List ((List ByteArray) × Int) × Bool × Bool × Int × Int) × ByteArray × (Bool × ((Int × List ByteArray × Int × Int) × List (List ByteArray) × List ((List ByteArray) × Int) × Bool × Bool × Int × Int)) × (List ((Option Addr × Nat) × List ByteArray) × List (((Option Addr × Nat) × List ByteArray) × Int)), ok := fun i => g32 i.1 i.2.1 = some i.2.2.1 ∧ i.2.2.2.1.map e25 = i.1.2.1 ∧ (∀ p ∈ i.2.2.2.1, cap25 p) ∧ i.2.2.2.2.map e105 = i.1.2.2.1 ∧ (∀ p ∈ i.2.2.2.2, cap105 p), rds := fun i => [] ++ (i.2.2.2.1).flatMap R25 ++ (i.2.2.2.2).flatMap R105, args := fun i => [.w (.lp 0 0), .w (.v (.string (i.2.1)))], res := fun _ => .bad, rn := [(100001, 1, 9, 1), (100000, 1, 25, 1), (100000, 2, 105, 2)], keys := 5, L := fun i => [(0, .cells 73 [.lp 1 0, .own 2, .own 3, bS i.1.2.2.2.1, bS i.1.2.2.2.2.1, .v (.int .i64 (i.1.2.2.2.2.2.1)), .v (.int .i64 (i.1.2.2.2.2.2.2))]), (1, .cells 43 [.v (.int .i64 (i.1.1.1)), .own 4, .v (.int .i64 (i.1.1.2.2.1)), .v (.int .i64 (i.1.1.2.2.2))]), (4, .arr 9 1 i.1.1.2.1.length (es i.1.1.2.1)), (2, .arr 25 1 i.1.2.1.length (ec c25 i.2.2.2.1)), (3, .arr 105 2 i.1.2.2.1.length (ec c105 i.2.2.2.2))], gr := true, γ := (List ((Option Addr × Nat) × List ByteArray)) × (List (((Option Addr × Nat) × List ByteArray) × Int)), resG := fun i _ => bS i.2.2.1.1, LG := fun i g => [(0, .cells 73 [.lp 1 0, .own 5, .own 6, bS i.2.2.1.2.2.2.2.1, bS i.2.2.1.2.2.2.2.2.1, .v (.int .i64 (i.2.2.1.2.2.2.2.2.2.1)), .v (.int .i64 (i.2.2.1.2.2.2.2.2.2.2))]), (1, .cells 43 [.v (.int .i64 (i.2.2.1.2.1.1)), .own 7, .v (.int .i64 (i.2.2.1.2.1.2.2.1)), .v (.int .i64 (i.2.2.1.2.1.2.2.2))]), (7, .arr 9 1 i.2.2.1.2.1.2.1.length (es i.2.2.1.2.1.2.1)), (5, .arr 25 1 i.2.2.1.2.2.1.length (ec c25 g.1)), (6, .arr 105 2 i.2.2.1.2.2.2.1.length (ec c105 g.2))], okG := fun i g => g.1.map e25 = i.2.2.1.2.2.1 ∧ (∀ p ∈ g.1, cap25 p) ∧ g.2.map e105 = i.2.2.1.2.2.2.1 ∧ (∀ p ∈ g.2, cap105 p), rdsG := fun i g => [] ++ (g.1).flatMap R25 ++ (g.2).flatMap R105, fzr := [] }
set_option maxRecDepth 8000 in
set_option maxHeartbeats 4000000 in
theorem k32_ok : CSOk Try.prog k32 := by
 refine R.cspecG Try.func32 nm32 rfl rfl (fun _ => rfl) ?_
 rintro ⟨a0, a1, r, ⟨X0_2, X0_3⟩⟩ ⟨hok, hE0_2, hC0_2, hE0_3, hC0_3⟩ q hrds args hargs
 obtain ⟨hrds, hF0_3⟩ := rdsOk_app.1 hrds
 obtain ⟨hrds, hF0_2⟩ := rdsOk_app.1 hrds
 dsimp only at hC0_2 hF0_2 hE0_2 hC0_3 hF0_3 hE0_3
 dsimp only [k32] at hargs ⊢
 match args, hargs with
 | [_, _], hargs =>
 obtain ⟨rfl, rfl, _⟩ := hargs
 refine ⟨envC [k13, k18, k21, k24, k28, k67, k68, k69, k96, k97, k131] false [(32, 5), (32, 8), (66, 9)], 6, envC_ok (css_cons ⟨fun _ => k13_ok, fun h => (by cases h)⟩ (css_cons ⟨fun _ => k18_ok, fun h => (by cases h)⟩ (css_cons ⟨fun h => (by cases h), fun _ => k21_ok⟩ (css_cons ⟨fun _ => k24_ok, fun h => (by cases h)⟩ (css_cons ⟨fun h => (by cases h), fun _ => k28_ok⟩ (css_cons ⟨fun h => (by cases h), fun _ => k67_ok⟩ (css_cons ⟨fun _ => k68_ok, fun h => (by cases h)⟩ (css_cons ⟨fun h => (by cases h), fun _ => k69_ok⟩ (css_cons ⟨fun _ => k96_ok, fun h => (by cases h)⟩ (css_cons ⟨fun _ => k97_ok, fun h => (by cases h)⟩ (css_cons ⟨fun _ => k131_ok, fun h => (by cases h)⟩ (css_nil)))))))))))), ?_⟩
 have H : Gives (g32 a0 a1) (fun a => a = r) := ⟨r, hok, rfl⟩
 unfold g32 at H
 clear hok
 refine R.cut_famG H 116 [0, 1] [] [] (fun v349 => [(5, .v (.string (v349.1))), (6, .v (.string (v349.2)))]) (fun v349 => []) [(0, .cells 73 [.lp 1 0, .own 2, .own 3, .bb false, .bb false, .v (.int .i64 (a0.2.2.2.2.2.1)), .v (.int .i64 (a0.2.2.2.2.2.2))]), (1, .cells 43 [.v (.int .i64 (a0.1.1)), .own 4, .v (.int .i64 (a0.1.2.2.1)), .v (.int .i64 (a0.1.2.2.2))]), (4, .arr 9 1 (a0.1.2.1.length) (es (a0.1.2.1))), (2, .arr 25 1 (a0.2.1.length) (ec c25 (X0_2))), (3, .arr 105 2 (a0.2.2.1.length) (ec c105 (X0_3)))] 0 (fun H => ?_)
 refine And.intro ?_ ?_
 ·refine And.intro ⟨by kernel_rfl⟩ ?_
  obtain ⟨v351, hv352, H⟩ := call_st H
  refine ⟨((a0.1.1, a0.1.2.1, a0.1.2.2.1, a0.1.2.2.2), v351), ⟨hv352⟩, ⟨trivial⟩, ?_⟩
  iterate 4 refine mo1E11 ?_
  refine ob_ck H fun h353 H => ?_
  obtain ⟨v354, hv355, H⟩ := call_st H
  refine ⟨((a0.1.1, a0.1.2.1, a0.1.2.2.1, a0.1.2.2.2), v351 - 1, v354), ⟨hv355⟩, ⟨trivial⟩, ?_⟩
  iterate 4 refine mo1E11 ?_
  refine And.intro ⟨rfl⟩ ?_
  refine if_st H (fun h356 H => ?_) (fun h356 H => ?_)
  ·refine ⟨((lit []), (lit [])), ⟨H⟩, ⟨fun _ _ _ h => h⟩, ?_⟩
   repeat refine mo1E11 ?_
   first | exact trivial | exact rfl
  ·refine R.cut_famG H 114 [4, 5] [] [] (fun v436 => []) (fun v436 => [(39, .cells 9 [.v (.string (v436))])]) [(0, .cells 73 [.lp 1 0, .own 2, .own 3, .bb false, .bb false, .v (.int .i64 (a0.2.2.2.2.2.1)), .v (.int .i64 (a0.2.2.2.2.2.2))]), (1, .cells 43 [.v (.int .i64 (a0.1.1)), .own 4, .v (.int .i64 (a0.1.2.2.1)), .v (.int .i64 (a0.1.2.2.2))]), (4, .arr 9 1 (a0.1.2.1.length) (es (a0.1.2.1))), (2, .arr 25 1 (a0.2.1.length) (ec c25 (X0_2))), (3, .arr 105 2 (a0.2.2.1.length) (ec c105 (X0_3)))] 0 (fun H => ?_)
   refine And.intro ?_ ?_
   ·refine ob_sb H fun h443 H q444 A438 c439 hq440 hc441 hR442 => ?_
    intro n445 hn446
    obtain rfl : n445 = (bytesOf a1).length := hn446.trans (bytesOf_len a1).symm
    refine R.loop_fam (bind_st H) [0, 1] [] (fun _ s449 => [(3, .v (.int .i64 (s449.2)))]) (fun _ s449 => [(39, .cells 9 [.v (.string (s449.1))])]) 0 (fun n514 H => ?_)
    refine ⟨(n514, _), ⟨H⟩, ⟨trivial⟩, ?_⟩
    repeat refine mo1E11 ?_
    rintro ⟨m0, s449⟩ H _
    obtain ⟨m450, hm0, H⟩ := IG_succ H
    dsimp only at hm0
    subst hm0
    try dsimp only at H
    refine if_st H (fun h492 H => ?_) (fun h492 H => ?_)
    ·refine ob_sl (Nat.le_trans (Nat.le_of_eq (bytesOf_len a1)) hc441) H fun h493 H => ?_
     have hs494 := sl_ei hR442 rfl (Nat.le_trans (Nat.le_of_eq (bytesOf_len a1)) hc441) h493
     intro n495 hn496
     obtain rfl : n495 = (((bytesOf a1).drop s449.2.toNat).take ((((bytesOf a1).length : Nat) : Int).toNat - s449.2.toNat)).length := hn496.trans hs494.2.1.symm
     obtain ⟨v497, hv498, H⟩ := call_st H
     refine ⟨((((bytesOf a1).drop s449.2.toNat).take ((((bytesOf a1).length : Nat) : Int).toNat - s449.2.toNat)), v497), ⟨hv498⟩, ⟨trivial⟩, ?_⟩
     refine And.intro ⟨rfl, (Nat.le_trans (Nat.le_of_eq hs494.2.1) hs494.2.2), ei_len.trans ((show _ = _ from rfl).trans (Nat.mul_one _).symm), hs494.1⟩ ?_
     refine if_st H (fun h499 H => ?_) (fun h499 H => ?_)
     ·obtain ⟨v500, hv501, H⟩ := call_st H
      refine ⟨(65533, v500), ⟨hv501⟩, ⟨trivial⟩, ?_⟩
      refine And.intro ⟨rfl⟩ ?_
      refine if_st H (fun h502 H => ?_) (fun h502 H => ?_)
      ·replace H := some_st H
       dsimp only [stp, sm] at H
       refine ⟨s449.1, ⟨H⟩, ⟨fun _ _ _ h => (hq440 _ _ _ h)⟩, ?_⟩
       repeat refine mo1E11 ?_
       first | exact trivial | exact rfl
      ·obtain ⟨v503, hv504, H⟩ := call_st H
       refine ⟨(s449.1, 65533, v503), ⟨hv504⟩, ⟨trivial⟩, ?_⟩
       iterate 2 refine And.intro ⟨rfl⟩ ?_
       refine ob_ck H fun h505 H => ?_
       replace H := some_st H
       refine ⟨(m450, (v503.1, s449.2 + 1)), ⟨H, Nat.lt_succ_self _⟩, ⟨trivial⟩, ⟨rfl⟩, ?_⟩
       repeat refine mo1E11 ?_
       first | exact trivial | exact rfl
     ·obtain ⟨v506, hv507, H⟩ := call_st H
      refine ⟨(v497.1, v506), ⟨hv507⟩, ⟨trivial⟩, ?_⟩
      refine And.intro ⟨rfl⟩ ?_
      refine if_st H (fun h508 H => ?_) (fun h508 H => ?_)
      ·replace H := some_st H
       dsimp only [stp, sm] at H
       refine ⟨s449.1, ⟨H⟩, ⟨fun _ _ _ h => (hq440 _ _ _ h)⟩, ?_⟩
       repeat refine mo1E11 ?_
       first | exact trivial | exact rfl
      ·obtain ⟨v509, hv510, H⟩ := call_st H
       refine ⟨(s449.1, v497.1, v509), ⟨hv510⟩, ⟨trivial⟩, ?_⟩
       iterate 2 refine And.intro ⟨rfl⟩ ?_
       refine ob_ck H fun h511 H => ?_
       replace H := some_st H
       refine ⟨(m450, (v509.1, s449.2 + v497.2.1)), ⟨H, Nat.lt_succ_self _⟩, ⟨trivial⟩, ⟨rfl⟩, ?_⟩
       repeat refine mo1E11 ?_
       first | exact trivial | exact rfl
    ·replace H := some_st H
     dsimp only [stp, sm] at H
     refine ⟨s449.1, ⟨H⟩, ⟨fun _ _ _ h => (hq440 _ _ _ h)⟩, ?_⟩
     repeat refine mo1E11 ?_
     first | exact trivial | exact rfl
   ·intro q435 hq434 v436 H
    refine And.intro ⟨by kernel_rfl⟩ ?_
    refine ⟨(Pn.calm 0 (Pn.calm 1 (Pn.calm 2 (Pn.eff 3 [1, 2, 0] Pn.done Pn.no)))), ⟨by kernel_rfl⟩, ?_⟩
    refine And.intro ?_ trivial
    refine And.intro ⟨fun _ _ _ h => h⟩ ?_
    refine ⟨(v354.1, v436), ⟨H⟩, ⟨fun _ _ _ h => (hq434 _ _ _ h)⟩, ?_⟩
    repeat refine mo1E11 ?_
    first | exact trivial | exact rfl
 ·intro q348 hq347 v349 H
  obtain ⟨v515, hv516, H⟩ := call_st H
  refine ⟨(a1, v515), ⟨hv516⟩, ⟨trivial⟩, ?_⟩
  refine And.intro ⟨rfl⟩ ?_
  obtain ⟨v517, hv518, H⟩ := call_st H
  refine ⟨(v515, v517), ⟨hv518⟩, ⟨trivial⟩, ?_⟩
  refine And.intro ⟨rfl⟩ ?_
  refine R.cut_fam H 140 [0, 5, 6, 7] [] (fun v533 => []) (fun v533 => []) [(0, .cells 73 [.lp 1 0, .own 2, .own 3, .bb false, .bb false, .v (.int .i64 (a0.2.2.2.2.2.1)), .v (.int .i64 (a0.2.2.2.2.2.2))]), (1, .cells 43 [.v (.int .i64 (a0.1.1)), .own 4, .v (.int .i64 (a0.1.2.2.1)), .v (.int .i64 (a0.1.2.2.2))]), (4, .arr 9 1 (a0.1.2.1.length) (es (a0.1.2.1))), (2, .arr 25 1 (a0.2.1.length) (ec c25 (X0_2))), (3, .arr 105 2 (a0.2.2.1.length) (ec c105 (X0_3))), (120, .arr 9 1 (v517.length) (es (v517)))] 0 (fun H => ?_)
  refine And.intro ?_ ?_
  ·obtain ⟨v535, hv536, H⟩ := call_st H
   refine ⟨((a0.1.1, a0.1.2.1, a0.1.2.2.1, a0.1.2.2.2), v535), ⟨hv536⟩, ⟨trivial⟩, ?_⟩
   iterate 4 refine mo1E11 ?_
   refine if_st H (fun h537 H => ?_) (fun h537 H => ?_)
   ·have hfin := fin_st H
    subst hfin
    refine ⟨(X0_2, X0_3), ⟨⟨hE0_2, P25.cap (fun p hp => P25.mono hq347 ((P25.of hF0_2 hC0_2) p hp)), hE0_3, P105.cap (fun p hp => P105.mono hq347 ((P105.of hF0_3 hC0_3) p hp))⟩⟩, ⟨(rdsOk_app.2 ⟨(rdsOk_app.2 ⟨trivial, P25.rds (fun p hp => P25.mono hq347 ((P25.of hF0_2 hC0_2) p hp))⟩), P105.rds (fun p hp => P105.mono hq347 ((P105.of hF0_3 hC0_3) p hp))⟩)⟩, ?_⟩
    repeat refine mo1E11 ?_
    first | exact trivial | exact rfl
   ·refine if_st H (fun h538 H => ?_) (fun h538 H => ?_)
    ·refine if_st H (fun h539 H => ?_) (fun h539 H => ?_)
     ·have hfin := fin_st H
      subst hfin
      refine ⟨(X0_2, X0_3), ⟨⟨hE0_2, P25.cap (fun p hp => P25.mono hq347 ((P25.of hF0_2 hC0_2) p hp)), hE0_3, P105.cap (fun p hp => P105.mono hq347 ((P105.of hF0_3 hC0_3) p hp))⟩⟩, ⟨(rdsOk_app.2 ⟨(rdsOk_app.2 ⟨trivial, P25.rds (fun p hp => P25.mono hq347 ((P25.of hF0_2 hC0_2) p hp))⟩), P105.rds (fun p hp => P105.mono hq347 ((P105.of hF0_3 hC0_3) p hp))⟩)⟩, ?_⟩
      repeat refine mo1E11 ?_
      first | exact trivial | exact rfl
     ·refine ⟨(), ⟨H⟩, ⟨rfl⟩, ?_⟩
      repeat refine mo1E11 ?_
      first | exact trivial | exact rfl
    ·refine ⟨(), ⟨H⟩, ⟨rfl⟩, ?_⟩
     repeat refine mo1E11 ?_
     first | exact trivial | exact rfl
  ·intro v533 H
   obtain ⟨v540, hv541, H⟩ := call_st H
   refine ⟨(((a0.1.1, a0.1.2.1, a0.1.2.2.1, a0.1.2.2.2), a0.2.1, a0.2.2.1, false, false, a0.2.2.2.2.2.1, a0.2.2.2.2.2.2), v540, (X0_2, X0_3)), ⟨hv541, hE0_2, P25.cap (fun p hp => P25.mono hq347 ((P25.of hF0_2 hC0_2) p hp)), hE0_3, P105.cap (fun p hp => P105.mono hq347 ((P105.of hF0_3 hC0_3) p hp))⟩, ⟨(rdsOk_app.2 ⟨(rdsOk_app.2 ⟨trivial, P25.rds (fun p hp => P25.mono hq347 ((P25.of hF0_2 hC0_2) p hp))⟩), P105.rds (fun p hp => P105.mono hq347 ((P105.of hF0_3 hC0_3) p hp))⟩)⟩, ?_⟩
   refine And.intro ⟨rfl⟩ ?_
   iterate 11 refine mo1E11 ?_
   intro q542 g543 hq544 hok545 hrd546
   obtain ⟨X549, X553⟩ := g543
   obtain ⟨hE550, hC547, hE554, hC551⟩ := hok545
   obtain ⟨hrd546, hF552⟩ := rdsOk_app.1 hrd546
   obtain ⟨hrd546, hF548⟩ := rdsOk_app.1 hrd546
   try dsimp only at hC547 hF548 hE550 hC551 hF552 hE554
   refine if_st H (fun h561 H => ?_) (fun h561 H => ?_)
   ·refine And.intro ⟨by kernel_rfl⟩ ?_
    refine ⟨(Pn.calm 0 (Pn.calm 1 (Pn.calm 2 (Pn.calm 3 (Pn.calm 4 (Pn.calm 5 (Pn.calm 6 (Pn.calm 7 (Pn.calm 8 (Pn.calm 9 (Pn.calm 10 (Pn.eff 11 [3, 9, 10, 8, 2, 7, 1, 6, 0, 5, 4] Pn.done Pn.no)))))))))))), ⟨by kernel_rfl⟩, ?_⟩
    obtain ⟨v562, hv563, H⟩ := call_st H
    refine ⟨((v540.1.1, v540.1.2.1, v540.1.2.2.1, v540.1.2.2.2), v562), ⟨hv563⟩, ⟨trivial⟩, ?_⟩
    iterate 4 refine mo1E11 ?_
    refine ob_ck H fun h564 H => ?_
    refine And.intro ?_ trivial
    obtain ⟨v565, hv566, H⟩ := call_st H
    refine ⟨((v540.1.1, v540.1.2.1, v540.1.2.2.1, v540.1.2.2.2), v562 - 1, v349.2, v565), ⟨hv566⟩, ⟨trivial⟩, ?_⟩
    iterate 3 refine And.intro ⟨rfl⟩ ?_
    iterate 4 refine mo1E11 ?_
    refine And.intro ⟨fun _ _ _ h => h⟩ ?_
    obtain ⟨v567, hv568, H⟩ := call_st H
    refine ⟨((v565.2.1, v565.2.2.1, v565.2.2.2.1, v565.2.2.2.2), v517, v567), ⟨hv568⟩, ⟨trivial⟩, ?_⟩
    refine And.intro ⟨rfl⟩ ?_
    refine And.intro ⟨by first | rfl | (simp; done), by first | rfl | (simp [ei, eb, es, ec, c25, c105, c135]; done) | (simp only [ei, eb, es, ec, c25, c105, c135, List.map_append, List.nil_append, List.append_assoc]; rfl)⟩ ?_
    iterate 4 refine mo1E11 ?_
    have hfin := fin_st H
    subst hfin
    refine ⟨(X549, X553), ⟨⟨hE550, P25.cap (P25.of hF548 hC547), hE554, P105.cap (P105.of hF552 hC551)⟩⟩, ⟨(rdsOk_app.2 ⟨(rdsOk_app.2 ⟨trivial, P25.rds (P25.of hF548 hC547)⟩), P105.rds (P105.of hF552 hC551)⟩)⟩, ?_⟩
    repeat refine mo1E11 ?_
    first | exact trivial | exact rfl
   ·obtain ⟨v569, hv570, H⟩ := call_st H
    refine ⟨((v540.1.1, v540.1.2.1, v540.1.2.2.1, v540.1.2.2.2), v517, v569), ⟨hv570⟩, ⟨trivial⟩, ?_⟩
    refine And.intro ⟨rfl⟩ ?_
    refine And.intro ⟨by first | rfl | (simp; done), by first | rfl | (simp [ei, eb, es, ec, c25, c105, c135]; done) | (simp only [ei, eb, es, ec, c25, c105, c135, List.map_append, List.nil_append, List.append_assoc]; rfl)⟩ ?_
    iterate 4 refine mo1E11 ?_
    have hfin := fin_st H
    subst hfin
    refine ⟨(X549, X553), ⟨⟨hE550, P25.cap (P25.of hF548 hC547), hE554, P105.cap (P105.of hF552 hC551)⟩⟩, ⟨(rdsOk_app.2 ⟨(rdsOk_app.2 ⟨trivial, P25.rds (P25.of hF548 hC547)⟩), P105.rds (P105.of hF552 hC551)⟩)⟩, ?_⟩
    repeat refine mo1E11 ?_
    first | exact trivial | exact rfl
end Go.Proofs.Ytenjkphlbdhaiaa
end
