/-
  Texts that the law leans on. Nothing here is trusted.
-/
import Derived.Test.YtnlglgafokjhnaaGreatEngTV
import Derived.Test.YtnlglgafokjhnaaGreatEngLd
import Derived.Test.YtnlglgafokjhnaaGreatVN3
set_option linter.unusedVariables false
set_option linter.unusedSimpArgs false
section
namespace Go.Proofs.YtnlglgafokjhnaaGreat
open Go Go.Eng
theorem mo1VW {p q : Prop} (k : q) (h : p := by first | exact rfl | exact Iff.rfl | exact ⟨rfl, rfl⟩ | exact decide_eq_true_iff | (constructor <;> first | exact rfl | (simp only [ei, eb, es, ec, gmin, gmax, List.map_append, List.flatMap_append, List.nil_append, List.append_nil, List.append_assoc]; done) | omega | (simp only [List.nil_append, List.length_append, List.length_cons, List.length_nil]; omega) | (simp [ei, eb, es, ec, gmin, gmax]; done)) | exact rfl | (simp only [ei, eb, es, ec, gmin, gmax, List.map_append, List.flatMap_append, List.nil_append, List.append_nil, List.append_assoc]; done) | omega | (simp only [List.nil_append, List.length_append, List.length_cons, List.length_nil]; omega) | (simp [ei, eb, es, ec, gmin, gmax]; done) | simp [ei, eb, es, ec, gmin, gmax]) : Ob p ∧ q := ⟨⟨h⟩, k⟩
noncomputable def g38 (a0 : (ByteArray × Int × Bool × List Int × Nat)) : Option ((ByteArray × Int × Bool × List Int × Nat)) :=
 ck (0 ≤ (0 : Int) ∧ (0 : Int) ≤ gmin (a0.1.size : Int) 300 ∧ gmin (a0.1.size : Int) 300 ≤ (a0.1.size : Int)) <|
 ck (0 ≤ (0 : Int) ∧ (0 : Int) ≤ gmin ((a0.2.2.2.1.length : Nat) : Int) 300 ∧ gmin ((a0.2.2.2.1.length : Nat) : Int) 300 ≤ ((a0.2.2.2.1.length : Nat) : Int)) <|
 some (a0.1.extract (0 : Int).toNat (gmin (a0.1.size : Int) 300).toNat, a0.2.1, a0.2.2.1, ((a0.2.2.2.1.drop (0 : Int).toNat).take ((gmin ((a0.2.2.2.1.length : Nat) : Int) 300).toNat - (0 : Int).toNat)), a0.2.2.2.2)
noncomputable def k38 : Eng.CS := { f := 38, calm := false, more := 0, ι := (ByteArray × Int × Bool × List Int × Nat) × (ByteArray × Int × Bool × List Int × Nat) × ((Option Addr × Nat)), ok := fun i => g38 i.1 = some i.2.1 ∧ i.1.2.2.2.1.length ≤ i.2.2.2, rds := fun i => [(i.2.2.1, ei .i64 i.1.2.2.2.1)], args := fun i => [.w (.agg [.v (.string (i.1.1)), .v (.int .i64 (i.1.2.1)), bS i.1.2.2.1, .v (.slice i.2.2.1 i.1.2.2.2.1.length i.2.2.2), .v (.float .f64 (i.1.2.2.2.2))])], res := fun _ => .bad, rn := [], gr := true, γ := (Option Addr × Nat), resG := fun i g => .agg [.v (.string (i.2.1.1)), .v (.int .i64 (i.2.1.2.1)), bS i.2.1.2.2.1, .v (.slice g.1 i.2.1.2.2.2.1.length g.2), .v (.float .f64 (i.2.1.2.2.2.2))], LG := fun i g => [], okG := fun i g => i.2.1.2.2.2.1.length ≤ g.2, rdsG := fun i g => [(g.1, ei .i64 i.2.1.2.2.2.1)], fzr := [(0, 3)] }
set_option maxRecDepth 8000 in
set_option maxHeartbeats 4000000 in
theorem k38_ok : CSOk Tryz.prog k38 := by
 refine R.cspecG Tryz.func38 nm38 rfl rfl (fun _ => rfl) ?_
 rintro ⟨a0, r, ⟨A0_3, cp0_3⟩⟩ ⟨hok, hc0_3⟩ q hrds args hargs
 obtain ⟨hR0_3, _⟩ := hrds
 dsimp only at hR0_3 hc0_3
 dsimp only [k38] at hargs ⊢
 match args, hargs with
 | [_], hargs =>
 obtain ⟨rfl, _⟩ := hargs
 refine ⟨envC [] false [], 6, envC_ok (css_nil), ?_⟩
 have H : Gives (g38 a0) (fun a => a = r) := ⟨r, hok, rfl⟩
 unfold g38 at H
 clear hok
 refine And.intro ⟨by kernel_rfl⟩ ?_
 refine ⟨(Pn.calm 0 (Pn.calm 1 (Pn.calm 2 (Pn.calm 3 (Pn.calm 4 (Pn.calm 5 (Pn.calm 6 (Pn.calm 7 (Pn.calm 8 (Pn.calm 9 (Pn.calm 10 (Pn.calm 11 (Pn.calm 12 (Pn.calm 13 (Pn.calm 14 (Pn.eff 15 [14, 6, 0, 1, 2, 3, 4, 5, 7, 8, 9, 10] (Pn.calm 16 (Pn.eff 17 [16, 13, 15, 0, 1, 2, 3, 4, 5, 6, 7, 8, 9, 10, 11, 12, 14] Pn.done Pn.no)) Pn.no)))))))))))))))), ⟨by kernel_rfl⟩, ?_⟩
 refine ob_ck H fun h1 H => ?_
 refine ob_sl hc0_3 H fun h2 H => ?_
 have hs3 := sl_ei hR0_3 rfl hc0_3 h2
 intro n4 hn5
 obtain rfl : n4 = ((a0.2.2.2.1.drop (0 : Int).toNat).take ((gmin ((a0.2.2.2.1.length : Nat) : Int) 300).toNat - (0 : Int).toNat)).length := hn5.trans hs3.2.1.symm
 refine And.intro ?_ trivial
 refine And.intro ⟨fun _ _ _ h => h⟩ ?_
 refine And.intro ?_ trivial
 refine And.intro ⟨fun _ _ _ h => h⟩ ?_
 have hfin := fin_st H
 first | subst hfin | (replace hfin := hfin.symm; subst hfin) | rw [← hfin]
 refine ⟨(if cp0_3 = (0 : Int).toNat then A0_3 else A0_3.map (·.add ((0 : Int).toNat)), cp0_3 - (0 : Int).toNat), ⟨(Nat.le_trans (Nat.le_of_eq hs3.2.1) hs3.2.2)⟩, ⟨⟨hs3.1, trivial⟩⟩, ?_⟩
 repeat refine mo1VW ?_
 first | exact trivial | exact rfl
noncomputable def g10 (a0 : (Int × ByteArray × ByteArray × List ByteArray × Int × Int × Nat × Nat × Nat × ByteArray × Int × Bool × List Int × Nat × ByteArray × ByteArray)) : Option ((Int × ByteArray × ByteArray × List ByteArray × Int × Int × Nat × Nat × Nat × ByteArray × Int × Bool × List Int × Nat × ByteArray × ByteArray)) :=
 ck (0 ≤ (0 : Int) ∧ (0 : Int) ≤ gmin (a0.2.1.size : Int) 40 ∧ gmin (a0.2.1.size : Int) 40 ≤ (a0.2.1.size : Int)) <|
 ck (0 ≤ (0 : Int) ∧ (0 : Int) ≤ gmin (a0.2.2.1.size : Int) 400 ∧ gmin (a0.2.2.1.size : Int) 400 ≤ (a0.2.2.1.size : Int)) <|
 ck (0 ≤ (0 : Int) ∧ (0 : Int) ≤ gmin (a0.2.2.2.2.2.2.2.2.2.2.2.2.2.2.1.size : Int) 300 ∧ gmin (a0.2.2.2.2.2.2.2.2.2.2.2.2.2.2.1.size : Int) 300 ≤ (a0.2.2.2.2.2.2.2.2.2.2.2.2.2.2.1.size : Int)) <|
 ck (0 ≤ (0 : Int) ∧ (0 : Int) ≤ gmin (a0.2.2.2.2.2.2.2.2.2.2.2.2.2.2.2.size : Int) 300 ∧ gmin (a0.2.2.2.2.2.2.2.2.2.2.2.2.2.2.2.size : Int) 300 ≤ (a0.2.2.2.2.2.2.2.2.2.2.2.2.2.2.2.size : Int)) <|
 (g38 (a0.2.2.2.2.2.2.2.2.2.1, a0.2.2.2.2.2.2.2.2.2.2.1, a0.2.2.2.2.2.2.2.2.2.2.2.1, a0.2.2.2.2.2.2.2.2.2.2.2.2.1, a0.2.2.2.2.2.2.2.2.2.2.2.2.2.1)).bind fun v10 =>
 jn (α := _) (β := List ByteArray) (fun k69 =>
   (loopO (σ := List ByteArray × Int) (ρ := List ByteArray) (fun s72 =>
     if s72.2 < ((a0.2.2.2.1.length : Nat) : Int) then
      (
       if s72.2 < 40 then
        (
         ck (0 ≤ s72.2 ∧ s72.2 < ((a0.2.2.2.1.length : Nat) : Int)) <|
         ck (0 ≤ s72.2 ∧ s72.2 < ((a0.2.2.2.1.length : Nat) : Int)) <|
         ck (0 ≤ (0 : Int) ∧ (0 : Int) ≤ gmin ((a0.2.2.2.1.getD s72.2.toNat default).size : Int) 300 ∧ gmin ((a0.2.2.2.1.getD s72.2.toNat default).size : Int) 300 ≤ ((a0.2.2.2.1.getD s72.2.toNat default).size : Int)) <|
         ck ((s72.1.length + 1) * 16 ≤ 140737488355328) <|
         ck (inR .i64 (s72.2 + 1)) <|
         some (.go ((s72.1 ++ [(a0.2.2.2.1.getD s72.2.toNat default).extract (0 : Int).toNat (gmin ((a0.2.2.2.1.getD s72.2.toNat default).size : Int) 300).toNat]), s72.2 + 1))
        )
       else
        some (.out s72.1)
      )
     else
      some (.out s72.1)
    ) ([], 0)).bind fun o95 =>
    k69 o95
 ) (fun v68 =>
  some (a0.1, a0.2.1.extract (0 : Int).toNat (gmin (a0.2.1.size : Int) 40).toNat, a0.2.2.1.extract (0 : Int).toNat (gmin (a0.2.2.1.size : Int) 400).toNat, v68, a0.2.2.2.2.1, a0.2.2.2.2.2.1, a0.2.2.2.2.2.2.1, a0.2.2.2.2.2.2.2.1, a0.2.2.2.2.2.2.2.2.1, v10.1, v10.2.1, v10.2.2.1, v10.2.2.2.1, v10.2.2.2.2, a0.2.2.2.2.2.2.2.2.2.2.2.2.2.2.1.extract (0 : Int).toNat (gmin (a0.2.2.2.2.2.2.2.2.2.2.2.2.2.2.1.size : Int) 300).toNat, a0.2.2.2.2.2.2.2.2.2.2.2.2.2.2.2.extract (0 : Int).toNat (gmin (a0.2.2.2.2.2.2.2.2.2.2.2.2.2.2.2.size : Int) 300).toNat)
 )
noncomputable def k10 : Eng.CS := { f := 10, calm := false, more := 0, ι := (Int × ByteArray × ByteArray × List ByteArray × Int × Int × Nat × Nat × Nat × ByteArray × Int × Bool × List Int × Nat × ByteArray × ByteArray) × (Int × ByteArray × ByteArray × List ByteArray × Int × Int × Nat × Nat × Nat × ByteArray × Int × Bool × List Int × Nat × ByteArray × ByteArray) × ((Option Addr × Nat) × (Option Addr × Nat)), ok := fun i => g10 i.1 = some i.2.1 ∧ i.1.2.2.2.1.length ≤ i.2.2.1.2 ∧ i.1.2.2.2.2.2.2.2.2.2.2.2.2.1.length ≤ i.2.2.2.2, rds := fun i => [(i.2.2.1.1, es i.1.2.2.2.1), (i.2.2.2.1, ei .i64 i.1.2.2.2.2.2.2.2.2.2.2.2.2.1)], args := fun i => [.w (.agg [.v (.int .i64 (i.1.1)), .v (.string (i.1.2.1)), .v (.string (i.1.2.2.1)), .v (.slice i.2.2.1.1 i.1.2.2.2.1.length i.2.2.1.2), .v (.int .i64 (i.1.2.2.2.2.1)), .v (.int .i64 (i.1.2.2.2.2.2.1)), .v (.float .f64 (i.1.2.2.2.2.2.2.1)), .v (.float .f64 (i.1.2.2.2.2.2.2.2.1)), .v (.float .f64 (i.1.2.2.2.2.2.2.2.2.1)), .v (.string (i.1.2.2.2.2.2.2.2.2.2.1)), .v (.int .i64 (i.1.2.2.2.2.2.2.2.2.2.2.1)), bS i.1.2.2.2.2.2.2.2.2.2.2.2.1, .v (.slice i.2.2.2.1 i.1.2.2.2.2.2.2.2.2.2.2.2.2.1.length i.2.2.2.2), .v (.float .f64 (i.1.2.2.2.2.2.2.2.2.2.2.2.2.2.1)), .v (.string (i.1.2.2.2.2.2.2.2.2.2.2.2.2.2.2.1)), .v (.string (i.1.2.2.2.2.2.2.2.2.2.2.2.2.2.2.2))])], res := fun _ => .bad, rn := [], gr := true, γ := (Option Addr × Nat) × (Option Addr × Nat), resG := fun i g => .agg [.v (.int .i64 (i.2.1.1)), .v (.string (i.2.1.2.1)), .v (.string (i.2.1.2.2.1)), .v (.slice g.1.1 i.2.1.2.2.2.1.length g.1.2), .v (.int .i64 (i.2.1.2.2.2.2.1)), .v (.int .i64 (i.2.1.2.2.2.2.2.1)), .v (.float .f64 (i.2.1.2.2.2.2.2.2.1)), .v (.float .f64 (i.2.1.2.2.2.2.2.2.2.1)), .v (.float .f64 (i.2.1.2.2.2.2.2.2.2.2.1)), .v (.string (i.2.1.2.2.2.2.2.2.2.2.2.1)), .v (.int .i64 (i.2.1.2.2.2.2.2.2.2.2.2.2.1)), bS i.2.1.2.2.2.2.2.2.2.2.2.2.2.1, .v (.slice g.2.1 i.2.1.2.2.2.2.2.2.2.2.2.2.2.2.1.length g.2.2), .v (.float .f64 (i.2.1.2.2.2.2.2.2.2.2.2.2.2.2.2.1)), .v (.string (i.2.1.2.2.2.2.2.2.2.2.2.2.2.2.2.2.1)), .v (.string (i.2.1.2.2.2.2.2.2.2.2.2.2.2.2.2.2.2))], LG := fun i g => [], okG := fun i g => i.2.1.2.2.2.1.length ≤ g.1.2 ∧ i.2.1.2.2.2.2.2.2.2.2.2.2.2.2.1.length ≤ g.2.2, rdsG := fun i g => [(g.1.1, es i.2.1.2.2.2.1), (g.2.1, ei .i64 i.2.1.2.2.2.2.2.2.2.2.2.2.2.2.1)], fzr := [(0, 3), (0, 12)] }
set_option maxRecDepth 8000 in
set_option maxHeartbeats 4000000 in
theorem k10_ok : CSOk Tryz.prog k10 := by
 refine R.cspecG Tryz.func10 nm10 rfl rfl (fun _ => rfl) ?_
 rintro ⟨a0, r, ⟨⟨A0_3, cp0_3⟩, ⟨A0_12, cp0_12⟩⟩⟩ ⟨hok, hc0_3, hc0_12⟩ q hrds args hargs
 obtain ⟨hR0_3, hR0_12, _⟩ := hrds
 dsimp only at hR0_3 hc0_3 hR0_12 hc0_12
 dsimp only [k10] at hargs ⊢
 match args, hargs with
 | [_], hargs =>
 obtain ⟨rfl, _⟩ := hargs
 refine ⟨envC [k38] false [(10, 9)], 6, envC_ok (css_cons ⟨fun h => (by cases h), fun _ => k38_ok⟩ (css_nil)), ?_⟩
 have H : Gives (g10 a0) (fun a => a = r) := ⟨r, hok, rfl⟩
 unfold g10 at H
 clear hok
 refine And.intro ⟨by kernel_rfl⟩ ?_
 refine ⟨(Pn.calm 0 (Pn.calm 1 (Pn.calm 2 (Pn.calm 3 (Pn.calm 4 (Pn.calm 5 (Pn.calm 6 (Pn.calm 7 (Pn.calm 8 (Pn.calm 9 (Pn.calm 10 (Pn.calm 11 (Pn.calm 12 (Pn.calm 13 (Pn.calm 14 (Pn.eff 15 [14, 6, 0, 1, 2, 3, 4, 5, 7, 8, 9, 10] (Pn.calm 16 (Pn.eff 17 [16, 13, 15, 0, 1, 2, 3, 4, 5, 6, 7, 8, 9, 10, 11, 12, 14] Pn.done Pn.no)) Pn.no)))))))))))))))), ⟨by kernel_rfl⟩, ?_⟩
 refine ob_ck H fun h6 H => ?_
 refine ob_ck H fun h7 H => ?_
 refine And.intro ?_ trivial
 refine And.intro ⟨fun _ _ _ h => h⟩ ?_
 refine And.intro ?_ trivial
 refine And.intro ⟨fun _ _ _ h => h⟩ ?_
 refine And.intro ⟨by kernel_rfl⟩ ?_
 refine ⟨(Pn.calm 0 (Pn.calm 1 (Pn.calm 2 (Pn.calm 3 (Pn.calm 4 (Pn.calm 5 (Pn.calm 6 (Pn.calm 7 (Pn.calm 8 (Pn.calm 9 (Pn.calm 10 (Pn.calm 11 (Pn.calm 12 (Pn.calm 13 (Pn.calm 14 (Pn.eff 15 [14, 6, 0, 1, 2, 3, 4, 5, 7, 8, 9, 10] (Pn.calm 16 (Pn.eff 17 [16, 13, 15, 0, 1, 2, 3, 4, 5, 6, 7, 8, 9, 10, 11, 12, 14] Pn.done Pn.no)) Pn.no)))))))))))))))), ⟨by kernel_rfl⟩, ?_⟩
 refine ob_ck H fun h8 H => ?_
 refine ob_ck H fun h9 H => ?_
 refine And.intro ?_ trivial
 refine And.intro ⟨fun _ _ _ h => h⟩ ?_
 refine And.intro ?_ trivial
 refine And.intro ⟨fun _ _ _ h => h⟩ ?_
 obtain ⟨v10, hv11, H⟩ := call_st H
 refine ⟨((a0.2.2.2.2.2.2.2.2.2.1, a0.2.2.2.2.2.2.2.2.2.2.1, a0.2.2.2.2.2.2.2.2.2.2.2.1, a0.2.2.2.2.2.2.2.2.2.2.2.2.1, a0.2.2.2.2.2.2.2.2.2.2.2.2.2.1), v10, (A0_12, cp0_12)), ⟨hv11, hc0_12⟩, ⟨⟨hR0_12, trivial⟩⟩, ?_⟩
 iterate 2 refine And.intro ⟨rfl⟩ ?_
 refine mo1VW ?_
 iterate 2 refine And.intro ⟨rfl⟩ ?_
 intro q12 g13 hq14 hok15 hrd16
 obtain ⟨A17, c18⟩ := g13
 have hc19 := hok15
 obtain ⟨hR20, _⟩ := hrd16
 try dsimp only at hc19 hR20
 refine R.cut_fam H 27 [1, 2] [] (fun v68 => [(3, .own 27)]) (fun v68 => [(27, .arr 9 1 (v68.length) (es (v68)))]) [(0, .cells 55 [.v (.int .i64 (a0.1)), .v (.string (a0.2.1.extract (0 : Int).toNat (gmin (a0.2.1.size : Int) 40).toNat)), .v (.string (a0.2.2.1.extract (0 : Int).toNat (gmin (a0.2.2.1.size : Int) 400).toNat)), .v (.slice (A0_3) (a0.2.2.2.1.length) (cp0_3)), .v (.int .i64 (a0.2.2.2.2.1)), .v (.int .i64 (a0.2.2.2.2.2.1)), .v (.float .f64 (a0.2.2.2.2.2.2.1)), .v (.float .f64 (a0.2.2.2.2.2.2.2.1)), .v (.float .f64 (a0.2.2.2.2.2.2.2.2.1)), .v (.string (v10.1)), .v (.int .i64 (v10.2.1)), bS v10.2.2.1, .v (.slice (A17) (v10.2.2.2.1.length) (c18)), .v (.float .f64 (v10.2.2.2.2)), .v (.string (a0.2.2.2.2.2.2.2.2.2.2.2.2.2.2.1.extract (0 : Int).toNat (gmin (a0.2.2.2.2.2.2.2.2.2.2.2.2.2.2.1.size : Int) 300).toNat)), .v (.string (a0.2.2.2.2.2.2.2.2.2.2.2.2.2.2.2.extract (0 : Int).toNat (gmin (a0.2.2.2.2.2.2.2.2.2.2.2.2.2.2.2.size : Int) 300).toNat))]), (1, .cells 55 [.v (.int .i64 (0)), .v (.string ((⟨#[]⟩ : ByteArray))), .v (.string ((⟨#[]⟩ : ByteArray))), .v (.slice none 0 0), .v (.int .i64 (0)), .v (.int .i64 (0)), .v (.float .f64 (0)), .v (.float .f64 (0)), .v (.float .f64 (0)), .v (.string ((⟨#[]⟩ : ByteArray))), .v (.int .i64 (0)), .bb false, .v (.slice none 0 0), .v (.float .f64 (0)), .v (.string ((⟨#[]⟩ : ByteArray))), .v (.string ((⟨#[]⟩ : ByteArray)))])] 1 (fun H => ?_)
 refine And.intro ?_ ?_
 ·refine R.loop_fam (bind_st H) [1, 2] [(3, 0, 9, 1)] (fun _ s72 => [(3, .own 14), (4, .v (.int .i64 (s72.2)))]) (fun _ s72 => [(14, .arr 9 1 (s72.1.length) (es (s72.1)))]) 1 (fun n107 H => ?_)
  refine ⟨(n107, _), ⟨H⟩, ⟨trivial⟩, ?_⟩
  repeat refine mo1VW ?_
  rintro ⟨m0, s72⟩ H _
  obtain ⟨m73, hm0, H⟩ := IG_succ H
  dsimp only at hm0
  subst hm0
  try dsimp only at H
  refine if_st H (fun h96 H => ?_) (fun h96 H => ?_)
  ·refine if_st H (fun h97 H => ?_) (fun h97 H => ?_)
   ·refine And.intro ⟨by kernel_rfl⟩ ?_
    refine ⟨(Pn.calm 0 (Pn.calm 1 (Pn.calm 2 (Pn.calm 3 (Pn.calm 4 (Pn.calm 5 (Pn.calm 6 (Pn.calm 7 (Pn.calm 8 (Pn.calm 9 (Pn.calm 10 (Pn.calm 11 (Pn.calm 12 (Pn.calm 13 (Pn.eff 14 [13, 5, 12, 4, 11, 2, 3, 10, 1, 9, 7, 8, 6] (Pn.eff 15 [0, 14, 13, 5, 12, 4, 11, 2, 3, 10, 1, 9, 7, 8, 6] (Pn.calm 16 Pn.done) Pn.no) Pn.no))))))))))))))), ⟨by kernel_rfl⟩, ?_⟩
    refine ob_ix (Reads.mono hq14 hR0_3) (fun h => es0 h) H fun h98 H => ?_
    refine ld_str (e := a0.2.2.2.1.getD s72.2.toNat default) (rd_get (Reads.mono hq14 hR0_3) (es_get (l := a0.2.2.2.1) (tn h98))) ?_
    refine ob_ix (Reads.mono hq14 hR0_3) (fun h => es0 h) H fun h99 H => ?_
    refine ld_str (e := a0.2.2.2.1.getD s72.2.toNat default) (rd_get (Reads.mono hq14 hR0_3) (es_get (l := a0.2.2.2.1) (tn h99))) ?_
    refine ob_ck H fun h100 H => ?_
    refine And.intro ?_ trivial
    refine And.intro ⟨fun _ _ _ h => h⟩ ?_
    refine And.intro ?_ trivial
    refine ob_app (by decide) (by first | exact es_one | ((repeat (refine List.forall_mem_cons.2 ⟨rfl, ?_⟩)); intro y hy; cases hy; done) | (intro y hy; simp [ei, eb, es, ec] at hy; (first | (rcases hy with rfl | hy) | subst hy | skip); all_goals first | rfl | simp_all [Value.oneCell'])) H fun h101 H => ?_
    intro n102 zs104 hn103 hz105
    obtain rfl : n102 = (s72.1 ++ [(a0.2.2.2.1.getD s72.2.toNat default).extract (0 : Int).toNat (gmin ((a0.2.2.2.1.getD s72.2.toNat default).size : Int) 300).toNat]).length := hn103.trans (by first | exact List.length_append.symm | (simp; done) | (simp; omega))
    obtain rfl : zs104 = es (s72.1 ++ [(a0.2.2.2.1.getD s72.2.toNat default).extract (0 : Int).toNat (gmin ((a0.2.2.2.1.getD s72.2.toNat default).size : Int) 300).toNat]) := by first | exact hz105.trans (es_app (xs := s72.1) (ys := ([(a0.2.2.2.1.getD s72.2.toNat default).extract (0 : Int).toNat (gmin ((a0.2.2.2.1.getD s72.2.toNat default).size : Int) 300).toNat]))).symm | (rw [hz105, es_vw]; first | exact es_app.symm | exact (es_app (xs := s72.1)).symm) | (rw [hz105]; simp [ei, eb, es, ec])
    refine And.intro ⟨fun _ _ _ h => h⟩ ?_
    refine ob_ck H fun h106 H => ?_
    replace H := some_st H
    refine ⟨(m73, ((s72.1 ++ [(a0.2.2.2.1.getD s72.2.toNat default).extract (0 : Int).toNat (gmin ((a0.2.2.2.1.getD s72.2.toNat default).size : Int) 300).toNat]), s72.2 + 1)), ⟨H, Nat.lt_succ_self _⟩, ⟨trivial⟩, ⟨rfl⟩, ?_⟩
    repeat refine mo1VW ?_
    first | exact trivial | exact rfl
   ·replace H := some_st H
    dsimp only [stp, sm] at H
    refine ⟨s72.1, ⟨H⟩, ⟨rfl⟩, ?_⟩
    repeat refine mo1VW ?_
    first | exact trivial | exact rfl
  ·replace H := some_st H
   dsimp only [stp, sm] at H
   refine ⟨s72.1, ⟨H⟩, ⟨rfl⟩, ?_⟩
   repeat refine mo1VW ?_
   first | exact trivial | exact rfl
 ·intro v68 H
  intro q108 A109 c110 hq111 hc112 hR113
  replace hR113 : Reads q108 A109 (es v68) := Eq.mp (congrArg (Reads q108 A109) (by first | exact rfl | (simp only [ei, eb, es, ec, gmin, gmax, List.map_append, List.flatMap_append, List.nil_append, List.append_nil, List.append_assoc]; done))) hR113
  have hfin := fin_st H
  first | subst hfin | (replace hfin := hfin.symm; subst hfin) | rw [← hfin]
  refine ⟨((A109, c110), (A17, c18)), ⟨⟨hc112, hc19⟩⟩, ⟨⟨hR113, (Reads.mono hq111 hR20), trivial⟩⟩, ?_⟩
  repeat refine mo1VW ?_
  first | exact trivial | exact rfl
def c55 (p : (Int × ByteArray × ByteArray × ((Option Addr × Nat) × List ByteArray) × Int × Int × Nat × Nat × Nat × ByteArray × Int × Bool × ((Option Addr × Nat) × List Int) × Nat × ByteArray × ByteArray)) : List Value := [.int .i64 p.1, .string p.2.1, .string p.2.2.1, .slice p.2.2.2.1.1.1 p.2.2.2.1.2.length p.2.2.2.1.1.2, .int .i64 p.2.2.2.2.1, .int .i64 p.2.2.2.2.2.1, .float .f64 p.2.2.2.2.2.2.1, .float .f64 p.2.2.2.2.2.2.2.1, .float .f64 p.2.2.2.2.2.2.2.2.1, .string p.2.2.2.2.2.2.2.2.2.1, .int .i64 p.2.2.2.2.2.2.2.2.2.2.1, .bool p.2.2.2.2.2.2.2.2.2.2.2.1, .slice p.2.2.2.2.2.2.2.2.2.2.2.2.1.1.1 p.2.2.2.2.2.2.2.2.2.2.2.2.1.2.length p.2.2.2.2.2.2.2.2.2.2.2.2.1.1.2, .float .f64 p.2.2.2.2.2.2.2.2.2.2.2.2.2.1, .string p.2.2.2.2.2.2.2.2.2.2.2.2.2.2.1, .string p.2.2.2.2.2.2.2.2.2.2.2.2.2.2.2]
theorem c55_len : ∀ a, (c55 a).length = 16 := fun _ => rfl
theorem c55_one : ∀ a, ∀ y ∈ c55 a, y.oneCell' = true := by intro a y hy; simp only [c55, List.mem_cons, List.not_mem_nil, or_false] at hy; rcases hy with rfl | rfl | rfl | rfl | rfl | rfl | rfl | rfl | rfl | rfl | rfl | rfl | rfl | rfl | rfl | rfl <;> rfl
def e55 (p : (Int × ByteArray × ByteArray × ((Option Addr × Nat) × List ByteArray) × Int × Int × Nat × Nat × Nat × ByteArray × Int × Bool × ((Option Addr × Nat) × List Int) × Nat × ByteArray × ByteArray)) : (Int × ByteArray × ByteArray × List ByteArray × Int × Int × Nat × Nat × Nat × ByteArray × Int × Bool × List Int × Nat × ByteArray × ByteArray) := (p.1, p.2.1, p.2.2.1, p.2.2.2.1.2, p.2.2.2.2.1, p.2.2.2.2.2.1, p.2.2.2.2.2.2.1, p.2.2.2.2.2.2.2.1, p.2.2.2.2.2.2.2.2.1, p.2.2.2.2.2.2.2.2.2.1, p.2.2.2.2.2.2.2.2.2.2.1, p.2.2.2.2.2.2.2.2.2.2.2.1, p.2.2.2.2.2.2.2.2.2.2.2.2.1.2, p.2.2.2.2.2.2.2.2.2.2.2.2.2.1, p.2.2.2.2.2.2.2.2.2.2.2.2.2.2.1, p.2.2.2.2.2.2.2.2.2.2.2.2.2.2.2)
def P55 (q : PH) (p : (Int × ByteArray × ByteArray × ((Option Addr × Nat) × List ByteArray) × Int × Int × Nat × Nat × Nat × ByteArray × Int × Bool × ((Option Addr × Nat) × List Int) × Nat × ByteArray × ByteArray)) : Prop := Reads q p.2.2.2.1.1.1 (es p.2.2.2.1.2) ∧ p.2.2.2.1.2.length ≤ p.2.2.2.1.1.2 ∧ Reads q p.2.2.2.2.2.2.2.2.2.2.2.2.1.1.1 (ei .i64 p.2.2.2.2.2.2.2.2.2.2.2.2.1.2) ∧ p.2.2.2.2.2.2.2.2.2.2.2.2.1.2.length ≤ p.2.2.2.2.2.2.2.2.2.2.2.2.1.1.2
def R55 (p : (Int × ByteArray × ByteArray × ((Option Addr × Nat) × List ByteArray) × Int × Int × Nat × Nat × Nat × ByteArray × Int × Bool × ((Option Addr × Nat) × List Int) × Nat × ByteArray × ByteArray)) : List (Option Addr × List Value) := [(p.2.2.2.1.1.1, es p.2.2.2.1.2), (p.2.2.2.2.2.2.2.2.2.2.2.2.1.1.1, ei .i64 p.2.2.2.2.2.2.2.2.2.2.2.2.1.2)]
def cap55 (p : (Int × ByteArray × ByteArray × ((Option Addr × Nat) × List ByteArray) × Int × Int × Nat × Nat × Nat × ByteArray × Int × Bool × ((Option Addr × Nat) × List Int) × Nat × ByteArray × ByteArray)) : Prop := p.2.2.2.1.2.length ≤ p.2.2.2.1.1.2 ∧ p.2.2.2.2.2.2.2.2.2.2.2.2.1.2.length ≤ p.2.2.2.2.2.2.2.2.2.2.2.2.1.1.2
theorem P55.mono {q q' : PH} (h : q.le q') {p : (Int × ByteArray × ByteArray × ((Option Addr × Nat) × List ByteArray) × Int × Int × Nat × Nat × Nat × ByteArray × Int × Bool × ((Option Addr × Nat) × List Int) × Nat × ByteArray × ByteArray)} (hp : P55 q p) : P55 q' p := ⟨Reads.mono h hp.1, hp.2.1, Reads.mono h hp.2.2.1, hp.2.2.2⟩
theorem P55.of {q : PH} {l : List ((Int × ByteArray × ByteArray × ((Option Addr × Nat) × List ByteArray) × Int × Int × Nat × Nat × Nat × ByteArray × Int × Bool × ((Option Addr × Nat) × List Int) × Nat × ByteArray × ByteArray))} (h : Eng.RdsOk q (l.flatMap R55)) (hc : ∀ p ∈ l, cap55 p) : ∀ p ∈ l, P55 q p := fun p hp => ⟨rds_mem (x := (p.2.2.2.1.1.1, es p.2.2.2.1.2)) h (List.mem_flatMap.2 ⟨p, hp, by simp [R55]⟩), (hc p hp).1, rds_mem (x := (p.2.2.2.2.2.2.2.2.2.2.2.2.1.1.1, ei .i64 p.2.2.2.2.2.2.2.2.2.2.2.2.1.2)) h (List.mem_flatMap.2 ⟨p, hp, by simp [R55]⟩), (hc p hp).2⟩
theorem P55.rds {q : PH} {l : List ((Int × ByteArray × ByteArray × ((Option Addr × Nat) × List ByteArray) × Int × Int × Nat × Nat × Nat × ByteArray × Int × Bool × ((Option Addr × Nat) × List Int) × Nat × ByteArray × ByteArray))} (h : ∀ p ∈ l, P55 q p) : RdsOk q (l.flatMap R55) := rds_of fun x hx => by obtain ⟨p, hp, hx⟩ := List.mem_flatMap.1 hx; have h := h p hp; simp only [R55, List.mem_cons, List.not_mem_nil, or_false] at hx; rcases hx with rfl | rfl <;> first | exact h.1 | exact h.2.2.1
theorem P55.cap {q : PH} {l : List ((Int × ByteArray × ByteArray × ((Option Addr × Nat) × List ByteArray) × Int × Int × Nat × Nat × Nat × ByteArray × Int × Bool × ((Option Addr × Nat) × List Int) × Nat × ByteArray × ByteArray))} (h : ∀ p ∈ l, P55 q p) : ∀ p ∈ l, cap55 p := fun p hp => ⟨(h p hp).2.1, (h p hp).2.2.2⟩
theorem mo2VW {p q : Prop} (k : q) (h : p := by first | exact rfl | exact Iff.rfl | exact ⟨rfl, rfl⟩ | exact decide_eq_true_iff | (constructor <;> first | exact rfl | (simp only [ei, eb, es, ec, c55, gmin, gmax, List.map_append, List.flatMap_append, List.nil_append, List.append_nil, List.append_assoc]; done) | omega | (simp only [List.nil_append, List.length_append, List.length_cons, List.length_nil]; omega) | (simp [ei, eb, es, ec, c55, gmin, gmax]; done)) | exact rfl | (simp only [ei, eb, es, ec, c55, gmin, gmax, List.map_append, List.flatMap_append, List.nil_append, List.append_nil, List.append_assoc]; done) | omega | (simp only [List.nil_append, List.length_append, List.length_cons, List.length_nil]; omega) | (simp [ei, eb, es, ec, c55, gmin, gmax]; done) | simp [ei, eb, es, ec, c55, gmin, gmax]) : Ob p ∧ q := ⟨⟨h⟩, k⟩
noncomputable def g4 (a0 : (ByteArray × List (Int × ByteArray × ByteArray × (List ByteArray) × Int × Int × Nat × Nat × Nat × ByteArray × Int × Bool × (List Int) × Nat × ByteArray × ByteArray) × List ByteArray × Int)) : Option ((ByteArray × List (Int × ByteArray × ByteArray × (List ByteArray) × Int × Int × Nat × Nat × Nat × ByteArray × Int × Bool × (List Int) × Nat × ByteArray × ByteArray) × List ByteArray × Int)) :=
 ck (0 ≤ (0 : Int) ∧ (0 : Int) ≤ gmin (a0.1.size : Int) 400 ∧ gmin (a0.1.size : Int) 400 ≤ (a0.1.size : Int)) <|
 jn (α := _) (β := List (Int × ByteArray × ByteArray × (List ByteArray) × Int × Int × Nat × Nat × Nat × ByteArray × Int × Bool × (List Int) × Nat × ByteArray × ByteArray)) (fun k347 =>
   (loopO (σ := List (Int × ByteArray × ByteArray × (List ByteArray) × Int × Int × Nat × Nat × Nat × ByteArray × Int × Bool × (List Int) × Nat × ByteArray × ByteArray) × Int) (ρ := List (Int × ByteArray × ByteArray × (List ByteArray) × Int × Int × Nat × Nat × Nat × ByteArray × Int × Bool × (List Int) × Nat × ByteArray × ByteArray)) (fun s350 =>
     if s350.2 < ((a0.2.1.length : Nat) : Int) then
      (
       if s350.2 < 12 then
        (
         ck (0 ≤ s350.2 ∧ s350.2 < ((a0.2.1.length : Nat) : Int)) <|
         (g10 ((a0.2.1.getD s350.2.toNat default).1, (a0.2.1.getD s350.2.toNat default).2.1, (a0.2.1.getD s350.2.toNat default).2.2.1, (a0.2.1.getD s350.2.toNat default).2.2.2.1, (a0.2.1.getD s350.2.toNat default).2.2.2.2.1, (a0.2.1.getD s350.2.toNat default).2.2.2.2.2.1, (a0.2.1.getD s350.2.toNat default).2.2.2.2.2.2.1, (a0.2.1.getD s350.2.toNat default).2.2.2.2.2.2.2.1, (a0.2.1.getD s350.2.toNat default).2.2.2.2.2.2.2.2.1, (a0.2.1.getD s350.2.toNat default).2.2.2.2.2.2.2.2.2.1, (a0.2.1.getD s350.2.toNat default).2.2.2.2.2.2.2.2.2.2.1, (decide ((a0.2.1.getD s350.2.toNat default).2.2.2.2.2.2.2.2.2.2.2.1 = true)), (a0.2.1.getD s350.2.toNat default).2.2.2.2.2.2.2.2.2.2.2.2.1, (a0.2.1.getD s350.2.toNat default).2.2.2.2.2.2.2.2.2.2.2.2.2.1, (a0.2.1.getD s350.2.toNat default).2.2.2.2.2.2.2.2.2.2.2.2.2.2.1, (a0.2.1.getD s350.2.toNat default).2.2.2.2.2.2.2.2.2.2.2.2.2.2.2)).bind fun v495 =>
         ck ((s350.1.length + 1) * 200 ≤ 140737488355328) <|
         ck (inR .i64 (s350.2 + 1)) <|
         some (.go ((s350.1 ++ ([(v495.1, v495.2.1, v495.2.2.1, v495.2.2.2.1, v495.2.2.2.2.1, v495.2.2.2.2.2.1, v495.2.2.2.2.2.2.1, v495.2.2.2.2.2.2.2.1, v495.2.2.2.2.2.2.2.2.1, v495.2.2.2.2.2.2.2.2.2.1, v495.2.2.2.2.2.2.2.2.2.2.1, v495.2.2.2.2.2.2.2.2.2.2.2.1, v495.2.2.2.2.2.2.2.2.2.2.2.2.1, v495.2.2.2.2.2.2.2.2.2.2.2.2.2.1, v495.2.2.2.2.2.2.2.2.2.2.2.2.2.2.1, v495.2.2.2.2.2.2.2.2.2.2.2.2.2.2.2)] : List (Int × ByteArray × ByteArray × (List ByteArray) × Int × Int × Nat × Nat × Nat × ByteArray × Int × Bool × (List Int) × Nat × ByteArray × ByteArray))), s350.2 + 1))
        )
       else
        some (.out s350.1)
      )
     else
      some (.out s350.1)
    ) ([], 0)).bind fun o464 =>
    k347 o464
 ) (fun v346 =>
  jn (α := _) (β := List ByteArray) (fun k575 =>
    (loopO (σ := List ByteArray × Int) (ρ := List ByteArray) (fun s578 =>
      if s578.2 < ((a0.2.2.1.length : Nat) : Int) then
       (
        if s578.2 < 18 then
         (
          ck (0 ≤ s578.2 ∧ s578.2 < ((a0.2.2.1.length : Nat) : Int)) <|
          ck (0 ≤ s578.2 ∧ s578.2 < ((a0.2.2.1.length : Nat) : Int)) <|
          ck (0 ≤ (0 : Int) ∧ (0 : Int) ≤ gmin ((a0.2.2.1.getD s578.2.toNat default).size : Int) 300 ∧ gmin ((a0.2.2.1.getD s578.2.toNat default).size : Int) 300 ≤ ((a0.2.2.1.getD s578.2.toNat default).size : Int)) <|
          ck ((s578.1.length + 1) * 16 ≤ 140737488355328) <|
          ck (inR .i64 (s578.2 + 1)) <|
          some (.go ((s578.1 ++ [(a0.2.2.1.getD s578.2.toNat default).extract (0 : Int).toNat (gmin ((a0.2.2.1.getD s578.2.toNat default).size : Int) 300).toNat]), s578.2 + 1))
         )
        else
         some (.out s578.1)
       )
      else
       some (.out s578.1)
     ) ([], 0)).bind fun o601 =>
     k575 o601
  ) (fun v574 =>
   some (a0.1.extract (0 : Int).toNat (gmin (a0.1.size : Int) 400).toNat, v346, v574, a0.2.2.2)
  )
 )
noncomputable def k4 : Eng.CS := { f := 4, calm := false, more := 0, ι := (ByteArray × List (Int × ByteArray × ByteArray × (List ByteArray) × Int × Int × Nat × Nat × Nat × ByteArray × Int × Bool × (List Int) × Nat × ByteArray × ByteArray) × List ByteArray × Int) × (ByteArray × List (Int × ByteArray × ByteArray × (List ByteArray) × Int × Int × Nat × Nat × Nat × ByteArray × Int × Bool × (List Int) × Nat × ByteArray × ByteArray) × List ByteArray × Int) × ((Option Addr × Nat) × (Option Addr × Nat)) × (List (Int × ByteArray × ByteArray × ((Option Addr × Nat) × List ByteArray) × Int × Int × Nat × Nat × Nat × ByteArray × Int × Bool × ((Option Addr × Nat) × List Int) × Nat × ByteArray × ByteArray)), ok := fun i => g4 i.1 = some i.2.1 ∧ i.1.2.1.length ≤ i.2.2.1.1.2 ∧ i.1.2.2.1.length ≤ i.2.2.1.2.2 ∧ i.2.2.2.map e55 = i.1.2.1 ∧ (∀ p ∈ i.2.2.2, cap55 p), rds := fun i => [(i.2.2.1.1.1, ec c55 i.2.2.2), (i.2.2.1.2.1, es i.1.2.2.1)] ++ (i.2.2.2).flatMap R55, args := fun i => [.w (.agg [.v (.string (i.1.1)), .v (.slice i.2.2.1.1.1 i.1.2.1.length i.2.2.1.1.2), .v (.slice i.2.2.1.2.1 i.1.2.2.1.length i.2.2.1.2.2), .v (.int .i64 (i.1.2.2.2))])], res := fun _ => .bad, rn := [], gr := true, γ := (Option Addr × Nat) × (Option Addr × Nat) × (List (Int × ByteArray × ByteArray × ((Option Addr × Nat) × List ByteArray) × Int × Int × Nat × Nat × Nat × ByteArray × Int × Bool × ((Option Addr × Nat) × List Int) × Nat × ByteArray × ByteArray)), resG := fun i g => .agg [.v (.string (i.2.1.1)), .v (.slice g.1.1 i.2.1.2.1.length g.1.2), .v (.slice g.2.1.1 i.2.1.2.2.1.length g.2.1.2), .v (.int .i64 (i.2.1.2.2.2))], LG := fun i g => [], okG := fun i g => i.2.1.2.1.length ≤ g.1.2 ∧ i.2.1.2.2.1.length ≤ g.2.1.2 ∧ g.2.2.map e55 = i.2.1.2.1 ∧ (∀ p ∈ g.2.2, cap55 p), rdsG := fun i g => [(g.1.1, ec c55 g.2.2), (g.2.1.1, es i.2.1.2.2.1)] ++ (g.2.2).flatMap R55, fzr := [(0, 1), (0, 2)] }
set_option maxRecDepth 8000 in
set_option maxHeartbeats 4000000 in
theorem k4_ok : CSOk Tryz.prog k4 := by
 refine R.cspecG Tryz.func4 nm4 rfl rfl (fun _ => rfl) ?_
 rintro ⟨a0, r, ⟨⟨A0_1, cp0_1⟩, ⟨A0_2, cp0_2⟩⟩, X0_1⟩ ⟨hok, hc0_1, hc0_2, hE0_1, hC0_1⟩ q hrds args hargs
 obtain ⟨hrds, hF0_1⟩ := rdsOk_app.1 hrds
 obtain ⟨hR0_1, hR0_2, _⟩ := hrds
 dsimp only at hR0_1 hc0_1 hR0_2 hc0_2 hC0_1 hF0_1 hE0_1
 dsimp only [k4] at hargs ⊢
 match args, hargs with
 | [_], hargs =>
 obtain ⟨rfl, _⟩ := hargs
 refine ⟨envC [k10] false [(4, 7), (4, 13)], 6, envC_ok (css_cons ⟨fun h => (by cases h), fun _ => k10_ok⟩ (css_nil)), ?_⟩
 have H : Gives (g4 a0) (fun a => a = r) := ⟨r, hok, rfl⟩
 unfold g4 at H
 clear hok
 refine ob_ck H fun h114 H => ?_
 refine R.cut_famXG H 27 [1, 2] [] [] (fun (v346 : List (Int × ByteArray × ByteArray × (List ByteArray) × Int × Int × Nat × Nat × Nat × ByteArray × Int × Bool × (List Int) × Nat × ByteArray × ByteArray)) (g : (List (Int × ByteArray × ByteArray × ((Option Addr × Nat) × List ByteArray) × Int × Int × Nat × Nat × Nat × ByteArray × Int × Bool × ((Option Addr × Nat) × List Int) × Nat × ByteArray × ByteArray))) => [(3, .own 27)]) (fun (v346 : List (Int × ByteArray × ByteArray × (List ByteArray) × Int × Int × Nat × Nat × Nat × ByteArray × Int × Bool × (List Int) × Nat × ByteArray × ByteArray)) (g : (List (Int × ByteArray × ByteArray × ((Option Addr × Nat) × List ByteArray) × Int × Int × Nat × Nat × Nat × ByteArray × Int × Bool × ((Option Addr × Nat) × List Int) × Nat × ByteArray × ByteArray))) => [(27, .arr 55 16 (v346.length) (ec c55 ((g))))]) [(0, .cells 25 [.v (.string (a0.1.extract (0 : Int).toNat (gmin (a0.1.size : Int) 400).toNat)), .v (.slice (A0_1) (a0.2.1.length) (cp0_1)), .v (.slice (A0_2) (a0.2.2.1.length) (cp0_2)), .v (.int .i64 (a0.2.2.2))]), (1, .cells 25 [.v (.string ((⟨#[]⟩ : ByteArray))), .v (.slice none 0 0), .v (.slice none 0 0), .v (.int .i64 (0))])] 1 (fun q (v346 : List (Int × ByteArray × ByteArray × (List ByteArray) × Int × Int × Nat × Nat × Nat × ByteArray × Int × Bool × (List Int) × Nat × ByteArray × ByteArray)) (g : (List (Int × ByteArray × ByteArray × ((Option Addr × Nat) × List ByteArray) × Int × Int × Nat × Nat × Nat × ByteArray × Int × Bool × ((Option Addr × Nat) × List Int) × Nat × ByteArray × ByteArray))) => g.map e55 = v346 ∧ (∀ p ∈ g, P55 q p)) (fun H => ?_)
 refine And.intro ?_ ?_
 ·refine R.loop_famXG (bind_st H) [1, 2] [(3, 0, 55, 16)] [] (fun _ => fun (s350 : List (Int × ByteArray × ByteArray × (List ByteArray) × Int × Int × Nat × Nat × Nat × ByteArray × Int × Bool × (List Int) × Nat × ByteArray × ByteArray) × Int) (g : (List (Int × ByteArray × ByteArray × ((Option Addr × Nat) × List ByteArray) × Int × Int × Nat × Nat × Nat × ByteArray × Int × Bool × ((Option Addr × Nat) × List Int) × Nat × ByteArray × ByteArray))) => [(3, .own 14), (4, .v (.int .i64 (s350.2)))]) (fun _ => fun (s350 : List (Int × ByteArray × ByteArray × (List ByteArray) × Int × Int × Nat × Nat × Nat × ByteArray × Int × Bool × (List Int) × Nat × ByteArray × ByteArray) × Int) (g : (List (Int × ByteArray × ByteArray × ((Option Addr × Nat) × List ByteArray) × Int × Int × Nat × Nat × Nat × ByteArray × Int × Bool × ((Option Addr × Nat) × List Int) × Nat × ByteArray × ByteArray))) => [(14, .arr 55 16 (s350.1.length) (ec c55 ((g))))]) 1 (fun q (s350 : List (Int × ByteArray × ByteArray × (List ByteArray) × Int × Int × Nat × Nat × Nat × ByteArray × Int × Bool × (List Int) × Nat × ByteArray × ByteArray) × Int) (g : (List (Int × ByteArray × ByteArray × ((Option Addr × Nat) × List ByteArray) × Int × Int × Nat × Nat × Nat × ByteArray × Int × Bool × ((Option Addr × Nat) × List Int) × Nat × ByteArray × ByteArray))) => g.map e55 = s350.1 ∧ (∀ p ∈ g, P55 q p)) (fun n523 H => ?_)
  refine ⟨(n523, _, ([] : List (Int × ByteArray × ByteArray × ((Option Addr × Nat) × List ByteArray) × Int × Int × Nat × Nat × Nat × ByteArray × Int × Bool × ((Option Addr × Nat) × List Int) × Nat × ByteArray × ByteArray))), ⟨H⟩, ⟨(show List.map e55 [] = [] from rfl), pin_nil⟩, ?_⟩
  repeat refine mo2VW ?_
  rintro q349 hq348 ⟨m0, s350, X407⟩ H hrd
  obtain ⟨hE408, hin406⟩ := hrd
  obtain ⟨m351, hm0, H⟩ := IG_succ H
  dsimp only at hm0 hin406 hE408
  subst hm0
  try dsimp only at H
  refine if_st H (fun h465 H => ?_) (fun h465 H => ?_)
  ·refine if_st H (fun h466 H => ?_) (fun h466 H => ?_)
   ·refine ob_ix (Reads.mono hq348 hR0_1) (fun h => (er_len hE0_1).symm.trans (ec0 c55_len (by decide) h)) H fun h467 H => ?_
    have hel468 : e55 (X0_1.getD s350.2.toNat default) = a0.2.1.getD s350.2.toNat default := er_get hE0_1 (tn h467)
    have hr469 : (X0_1.getD s350.2.toNat default).1 = (a0.2.1.getD s350.2.toNat default).1 := congrArg (fun z => z.1) hel468
    refine ld_int (e := (a0.2.1.getD s350.2.toNat default).1) ((rd_get (Reads.mono hq348 hR0_1) ((ec_get (i := s350.2.toNat) (o := 0) c55_len (Nat.lt_of_lt_of_eq (tn h467) (er_len hE0_1).symm) (by decide)).trans rfl)).trans (congrArg (fun z => some (Value.int .i64 z)) hr469)) ?_
    have hr470 : (X0_1.getD s350.2.toNat default).2.1 = (a0.2.1.getD s350.2.toNat default).2.1 := congrArg (fun z => z.2.1) hel468
    refine ld_str (e := (a0.2.1.getD s350.2.toNat default).2.1) ((rd_get (Reads.mono hq348 hR0_1) ((ec_get (i := s350.2.toNat) (o := 1) c55_len (Nat.lt_of_lt_of_eq (tn h467) (er_len hE0_1).symm) (by decide)).trans rfl)).trans (congrArg (fun z => some (Value.string z)) hr470)) ?_
    have hr471 : (X0_1.getD s350.2.toNat default).2.2.1 = (a0.2.1.getD s350.2.toNat default).2.2.1 := congrArg (fun z => z.2.2.1) hel468
    refine ld_str (e := (a0.2.1.getD s350.2.toNat default).2.2.1) ((rd_get (Reads.mono hq348 hR0_1) ((ec_get (i := s350.2.toNat) (o := 2) c55_len (Nat.lt_of_lt_of_eq (tn h467) (er_len hE0_1).symm) (by decide)).trans rfl)).trans (congrArg (fun z => some (Value.string z)) hr471)) ?_
    have hr472 : (X0_1.getD s350.2.toNat default).2.2.2.1.2 = (a0.2.1.getD s350.2.toNat default).2.2.2.1 := congrArg (fun z => z.2.2.2.1) hel468
    obtain ⟨A473, c474, hA475⟩ : ∃ A c, (A = (X0_1.getD s350.2.toNat default).2.2.2.1.1.1 ∧ c = (X0_1.getD s350.2.toNat default).2.2.2.1.1.2) := ⟨_, _, rfl, rfl⟩
    have hR476 := rd_eq (f := es) hr472 ((fun p hp => P55.mono hq348 ((P55.of hF0_1 hC0_1) p hp)) _ (getD_mem (Nat.lt_of_lt_of_eq (tn h467) (er_len hE0_1).symm))).1
    rw [← hA475.1] at hR476
    have hc477 : ((a0.2.1.getD s350.2.toNat default).2.2.2.1).length ≤ c474 := by rw [hA475.2]; exact Nat.le_trans (Nat.le_of_eq (congrArg List.length hr472.symm)) ((fun p hp => P55.mono hq348 ((P55.of hF0_1 hC0_1) p hp)) _ (getD_mem (Nat.lt_of_lt_of_eq (tn h467) (er_len hE0_1).symm))).2.1
    refine ld_sl (A := A473) (n := ((a0.2.1.getD s350.2.toNat default).2.2.2.1).length) (c := c474) (by rw [hA475.1, hA475.2]; exact (rd_get (Reads.mono hq348 hR0_1) ((ec_get (i := s350.2.toNat) (o := 3) c55_len (Nat.lt_of_lt_of_eq (tn h467) (er_len hE0_1).symm) (by decide)).trans rfl)).trans (congrArg (fun z => some (Value.slice (X0_1.getD s350.2.toNat default).2.2.2.1.1.1 z (X0_1.getD s350.2.toNat default).2.2.2.1.1.2)) (congrArg List.length hr472))) ?_
    have hr478 : (X0_1.getD s350.2.toNat default).2.2.2.2.1 = (a0.2.1.getD s350.2.toNat default).2.2.2.2.1 := congrArg (fun z => z.2.2.2.2.1) hel468
    refine ld_int (e := (a0.2.1.getD s350.2.toNat default).2.2.2.2.1) ((rd_get (Reads.mono hq348 hR0_1) ((ec_get (i := s350.2.toNat) (o := 4) c55_len (Nat.lt_of_lt_of_eq (tn h467) (er_len hE0_1).symm) (by decide)).trans rfl)).trans (congrArg (fun z => some (Value.int .i64 z)) hr478)) ?_
    have hr479 : (X0_1.getD s350.2.toNat default).2.2.2.2.2.1 = (a0.2.1.getD s350.2.toNat default).2.2.2.2.2.1 := congrArg (fun z => z.2.2.2.2.2.1) hel468
    refine ld_int (e := (a0.2.1.getD s350.2.toNat default).2.2.2.2.2.1) ((rd_get (Reads.mono hq348 hR0_1) ((ec_get (i := s350.2.toNat) (o := 5) c55_len (Nat.lt_of_lt_of_eq (tn h467) (er_len hE0_1).symm) (by decide)).trans rfl)).trans (congrArg (fun z => some (Value.int .i64 z)) hr479)) ?_
    have hr480 : (X0_1.getD s350.2.toNat default).2.2.2.2.2.2.1 = (a0.2.1.getD s350.2.toNat default).2.2.2.2.2.2.1 := congrArg (fun z => z.2.2.2.2.2.2.1) hel468
    refine ld_flt (e := (a0.2.1.getD s350.2.toNat default).2.2.2.2.2.2.1) ((rd_get (Reads.mono hq348 hR0_1) ((ec_get (i := s350.2.toNat) (o := 6) c55_len (Nat.lt_of_lt_of_eq (tn h467) (er_len hE0_1).symm) (by decide)).trans rfl)).trans (congrArg (fun z => some (Value.float .f64 z)) hr480)) ?_
    have hr481 : (X0_1.getD s350.2.toNat default).2.2.2.2.2.2.2.1 = (a0.2.1.getD s350.2.toNat default).2.2.2.2.2.2.2.1 := congrArg (fun z => z.2.2.2.2.2.2.2.1) hel468
    refine ld_flt (e := (a0.2.1.getD s350.2.toNat default).2.2.2.2.2.2.2.1) ((rd_get (Reads.mono hq348 hR0_1) ((ec_get (i := s350.2.toNat) (o := 7) c55_len (Nat.lt_of_lt_of_eq (tn h467) (er_len hE0_1).symm) (by decide)).trans rfl)).trans (congrArg (fun z => some (Value.float .f64 z)) hr481)) ?_
    have hr482 : (X0_1.getD s350.2.toNat default).2.2.2.2.2.2.2.2.1 = (a0.2.1.getD s350.2.toNat default).2.2.2.2.2.2.2.2.1 := congrArg (fun z => z.2.2.2.2.2.2.2.2.1) hel468
    refine ld_flt (e := (a0.2.1.getD s350.2.toNat default).2.2.2.2.2.2.2.2.1) ((rd_get (Reads.mono hq348 hR0_1) ((ec_get (i := s350.2.toNat) (o := 8) c55_len (Nat.lt_of_lt_of_eq (tn h467) (er_len hE0_1).symm) (by decide)).trans rfl)).trans (congrArg (fun z => some (Value.float .f64 z)) hr482)) ?_
    have hr483 : (X0_1.getD s350.2.toNat default).2.2.2.2.2.2.2.2.2.1 = (a0.2.1.getD s350.2.toNat default).2.2.2.2.2.2.2.2.2.1 := congrArg (fun z => z.2.2.2.2.2.2.2.2.2.1) hel468
    refine ld_str (e := (a0.2.1.getD s350.2.toNat default).2.2.2.2.2.2.2.2.2.1) ((rd_get (Reads.mono hq348 hR0_1) ((ec_get (i := s350.2.toNat) (o := 9) c55_len (Nat.lt_of_lt_of_eq (tn h467) (er_len hE0_1).symm) (by decide)).trans rfl)).trans (congrArg (fun z => some (Value.string z)) hr483)) ?_
    have hr484 : (X0_1.getD s350.2.toNat default).2.2.2.2.2.2.2.2.2.2.1 = (a0.2.1.getD s350.2.toNat default).2.2.2.2.2.2.2.2.2.2.1 := congrArg (fun z => z.2.2.2.2.2.2.2.2.2.2.1) hel468
    refine ld_int (e := (a0.2.1.getD s350.2.toNat default).2.2.2.2.2.2.2.2.2.2.1) ((rd_get (Reads.mono hq348 hR0_1) ((ec_get (i := s350.2.toNat) (o := 10) c55_len (Nat.lt_of_lt_of_eq (tn h467) (er_len hE0_1).symm) (by decide)).trans rfl)).trans (congrArg (fun z => some (Value.int .i64 z)) hr484)) ?_
    have hr485 : (X0_1.getD s350.2.toNat default).2.2.2.2.2.2.2.2.2.2.2.1 = (a0.2.1.getD s350.2.toNat default).2.2.2.2.2.2.2.2.2.2.2.1 := congrArg (fun z => z.2.2.2.2.2.2.2.2.2.2.2.1) hel468
    refine ld_bool (e := (a0.2.1.getD s350.2.toNat default).2.2.2.2.2.2.2.2.2.2.2.1) ((rd_get (Reads.mono hq348 hR0_1) ((ec_get (i := s350.2.toNat) (o := 11) c55_len (Nat.lt_of_lt_of_eq (tn h467) (er_len hE0_1).symm) (by decide)).trans rfl)).trans (congrArg (fun z => some (Value.bool z)) hr485)) ?_
    have hr486 : (X0_1.getD s350.2.toNat default).2.2.2.2.2.2.2.2.2.2.2.2.1.2 = (a0.2.1.getD s350.2.toNat default).2.2.2.2.2.2.2.2.2.2.2.2.1 := congrArg (fun z => z.2.2.2.2.2.2.2.2.2.2.2.2.1) hel468
    obtain ⟨A487, c488, hA489⟩ : ∃ A c, (A = (X0_1.getD s350.2.toNat default).2.2.2.2.2.2.2.2.2.2.2.2.1.1.1 ∧ c = (X0_1.getD s350.2.toNat default).2.2.2.2.2.2.2.2.2.2.2.2.1.1.2) := ⟨_, _, rfl, rfl⟩
    have hR490 := rd_eq (f := ei .i64) hr486 ((fun p hp => P55.mono hq348 ((P55.of hF0_1 hC0_1) p hp)) _ (getD_mem (Nat.lt_of_lt_of_eq (tn h467) (er_len hE0_1).symm))).2.2.1
    rw [← hA489.1] at hR490
    have hc491 : ((a0.2.1.getD s350.2.toNat default).2.2.2.2.2.2.2.2.2.2.2.2.1).length ≤ c488 := by rw [hA489.2]; exact Nat.le_trans (Nat.le_of_eq (congrArg List.length hr486.symm)) ((fun p hp => P55.mono hq348 ((P55.of hF0_1 hC0_1) p hp)) _ (getD_mem (Nat.lt_of_lt_of_eq (tn h467) (er_len hE0_1).symm))).2.2.2
    refine ld_sl (A := A487) (n := ((a0.2.1.getD s350.2.toNat default).2.2.2.2.2.2.2.2.2.2.2.2.1).length) (c := c488) (by rw [hA489.1, hA489.2]; exact (rd_get (Reads.mono hq348 hR0_1) ((ec_get (i := s350.2.toNat) (o := 12) c55_len (Nat.lt_of_lt_of_eq (tn h467) (er_len hE0_1).symm) (by decide)).trans rfl)).trans (congrArg (fun z => some (Value.slice (X0_1.getD s350.2.toNat default).2.2.2.2.2.2.2.2.2.2.2.2.1.1.1 z (X0_1.getD s350.2.toNat default).2.2.2.2.2.2.2.2.2.2.2.2.1.1.2)) (congrArg List.length hr486))) ?_
    have hr492 : (X0_1.getD s350.2.toNat default).2.2.2.2.2.2.2.2.2.2.2.2.2.1 = (a0.2.1.getD s350.2.toNat default).2.2.2.2.2.2.2.2.2.2.2.2.2.1 := congrArg (fun z => z.2.2.2.2.2.2.2.2.2.2.2.2.2.1) hel468
    refine ld_flt (e := (a0.2.1.getD s350.2.toNat default).2.2.2.2.2.2.2.2.2.2.2.2.2.1) ((rd_get (Reads.mono hq348 hR0_1) ((ec_get (i := s350.2.toNat) (o := 13) c55_len (Nat.lt_of_lt_of_eq (tn h467) (er_len hE0_1).symm) (by decide)).trans rfl)).trans (congrArg (fun z => some (Value.float .f64 z)) hr492)) ?_
    have hr493 : (X0_1.getD s350.2.toNat default).2.2.2.2.2.2.2.2.2.2.2.2.2.2.1 = (a0.2.1.getD s350.2.toNat default).2.2.2.2.2.2.2.2.2.2.2.2.2.2.1 := congrArg (fun z => z.2.2.2.2.2.2.2.2.2.2.2.2.2.2.1) hel468
    refine ld_str (e := (a0.2.1.getD s350.2.toNat default).2.2.2.2.2.2.2.2.2.2.2.2.2.2.1) ((rd_get (Reads.mono hq348 hR0_1) ((ec_get (i := s350.2.toNat) (o := 14) c55_len (Nat.lt_of_lt_of_eq (tn h467) (er_len hE0_1).symm) (by decide)).trans rfl)).trans (congrArg (fun z => some (Value.string z)) hr493)) ?_
    have hr494 : (X0_1.getD s350.2.toNat default).2.2.2.2.2.2.2.2.2.2.2.2.2.2.2 = (a0.2.1.getD s350.2.toNat default).2.2.2.2.2.2.2.2.2.2.2.2.2.2.2 := congrArg (fun z => z.2.2.2.2.2.2.2.2.2.2.2.2.2.2.2) hel468
    refine ld_str (e := (a0.2.1.getD s350.2.toNat default).2.2.2.2.2.2.2.2.2.2.2.2.2.2.2) ((rd_get (Reads.mono hq348 hR0_1) ((ec_get (i := s350.2.toNat) (o := 15) c55_len (Nat.lt_of_lt_of_eq (tn h467) (er_len hE0_1).symm) (by decide)).trans rfl)).trans (congrArg (fun z => some (Value.string z)) hr494)) ?_
    obtain ⟨v495, hv496, H⟩ := call_st H
    refine ⟨(((a0.2.1.getD s350.2.toNat default).1, (a0.2.1.getD s350.2.toNat default).2.1, (a0.2.1.getD s350.2.toNat default).2.2.1, (a0.2.1.getD s350.2.toNat default).2.2.2.1, (a0.2.1.getD s350.2.toNat default).2.2.2.2.1, (a0.2.1.getD s350.2.toNat default).2.2.2.2.2.1, (a0.2.1.getD s350.2.toNat default).2.2.2.2.2.2.1, (a0.2.1.getD s350.2.toNat default).2.2.2.2.2.2.2.1, (a0.2.1.getD s350.2.toNat default).2.2.2.2.2.2.2.2.1, (a0.2.1.getD s350.2.toNat default).2.2.2.2.2.2.2.2.2.1, (a0.2.1.getD s350.2.toNat default).2.2.2.2.2.2.2.2.2.2.1, (decide ((a0.2.1.getD s350.2.toNat default).2.2.2.2.2.2.2.2.2.2.2.1 = true)), (a0.2.1.getD s350.2.toNat default).2.2.2.2.2.2.2.2.2.2.2.2.1, (a0.2.1.getD s350.2.toNat default).2.2.2.2.2.2.2.2.2.2.2.2.2.1, (a0.2.1.getD s350.2.toNat default).2.2.2.2.2.2.2.2.2.2.2.2.2.2.1, (a0.2.1.getD s350.2.toNat default).2.2.2.2.2.2.2.2.2.2.2.2.2.2.2), v495, ((A473, c474), (A487, c488))), ⟨hv496, hc477, hc491⟩, ⟨⟨hR476, hR490, trivial⟩⟩, ?_⟩
    iterate 11 refine And.intro ⟨rfl⟩ ?_
    refine mo2VW ?_
    iterate 4 refine And.intro ⟨rfl⟩ ?_
    intro q497 g498 hq499 hok500 hrd501
    obtain ⟨⟨A502, c503⟩, ⟨A506, c507⟩⟩ := g498
    obtain ⟨hc504, hc508⟩ := hok500
    obtain ⟨hR505, hR509, _⟩ := hrd501
    try dsimp only at hc504 hR505 hc508 hR509
    refine ob_app (by decide) (by first | exact (ec_one c55_one) | ((repeat (refine List.forall_mem_cons.2 ⟨rfl, ?_⟩)); intro y hy; cases hy; done) | (intro y hy; simp [ei, eb, es, ec, c55] at hy; (first | (rcases hy with rfl | hy) | subst hy | skip); all_goals first | rfl | simp_all [Value.oneCell'])) H fun h510 H => ?_
    intro n511 zs513 hn512 hz514
    obtain rfl : n511 = (s350.1 ++ ([(v495.1, v495.2.1, v495.2.2.1, v495.2.2.2.1, v495.2.2.2.2.1, v495.2.2.2.2.2.1, v495.2.2.2.2.2.2.1, v495.2.2.2.2.2.2.2.1, v495.2.2.2.2.2.2.2.2.1, v495.2.2.2.2.2.2.2.2.2.1, v495.2.2.2.2.2.2.2.2.2.2.1, v495.2.2.2.2.2.2.2.2.2.2.2.1, v495.2.2.2.2.2.2.2.2.2.2.2.2.1, v495.2.2.2.2.2.2.2.2.2.2.2.2.2.1, v495.2.2.2.2.2.2.2.2.2.2.2.2.2.2.1, v495.2.2.2.2.2.2.2.2.2.2.2.2.2.2.2)] : List (Int × ByteArray × ByteArray × (List ByteArray) × Int × Int × Nat × Nat × Nat × ByteArray × Int × Bool × (List Int) × Nat × ByteArray × ByteArray))).length := hn512.trans (by first | exact List.length_append.symm | (simp; done) | (simp; omega))
    obtain ⟨X515, hE516, hP517, hl518, rfl⟩ := nx (f := e55) (C := c55) (P := P55 _) (zs := zs513) (er_app hE408 (show List.map e55 ([(v495.1, v495.2.1, v495.2.2.1, ((A502, c503), v495.2.2.2.1), v495.2.2.2.2.1, v495.2.2.2.2.2.1, v495.2.2.2.2.2.2.1, v495.2.2.2.2.2.2.2.1, v495.2.2.2.2.2.2.2.2.1, v495.2.2.2.2.2.2.2.2.2.1, v495.2.2.2.2.2.2.2.2.2.2.1, v495.2.2.2.2.2.2.2.2.2.2.2.1, ((A506, c507), v495.2.2.2.2.2.2.2.2.2.2.2.2.1), v495.2.2.2.2.2.2.2.2.2.2.2.2.2.1, v495.2.2.2.2.2.2.2.2.2.2.2.2.2.2.1, v495.2.2.2.2.2.2.2.2.2.2.2.2.2.2.2)] : List (Int × ByteArray × ByteArray × ((Option Addr × Nat) × List ByteArray) × Int × Int × Nat × Nat × Nat × ByteArray × Int × Bool × ((Option Addr × Nat) × List Int) × Nat × ByteArray × ByteArray)) = ([(v495.1, v495.2.1, v495.2.2.1, v495.2.2.2.1, v495.2.2.2.2.1, v495.2.2.2.2.2.1, v495.2.2.2.2.2.2.1, v495.2.2.2.2.2.2.2.1, v495.2.2.2.2.2.2.2.2.1, v495.2.2.2.2.2.2.2.2.2.1, v495.2.2.2.2.2.2.2.2.2.2.1, v495.2.2.2.2.2.2.2.2.2.2.2.1, v495.2.2.2.2.2.2.2.2.2.2.2.2.1, v495.2.2.2.2.2.2.2.2.2.2.2.2.2.1, v495.2.2.2.2.2.2.2.2.2.2.2.2.2.2.1, v495.2.2.2.2.2.2.2.2.2.2.2.2.2.2.2)] : List (Int × ByteArray × ByteArray × (List ByteArray) × Int × Int × Nat × Nat × Nat × ByteArray × Int × Bool × (List Int) × Nat × ByteArray × ByteArray)) from rfl)) (pin_app (fun p hp => P55.mono hq499 (hin406 p hp)) (pin_one ⟨hR505, hc504, hR509, hc508⟩)) (by first | exact hz514.trans (ec_app (c := c55) (xs := X407) (ys := ([(v495.1, v495.2.1, v495.2.2.1, ((A502, c503), v495.2.2.2.1), v495.2.2.2.2.1, v495.2.2.2.2.2.1, v495.2.2.2.2.2.2.1, v495.2.2.2.2.2.2.2.1, v495.2.2.2.2.2.2.2.2.1, v495.2.2.2.2.2.2.2.2.2.1, v495.2.2.2.2.2.2.2.2.2.2.1, v495.2.2.2.2.2.2.2.2.2.2.2.1, ((A506, c507), v495.2.2.2.2.2.2.2.2.2.2.2.2.1), v495.2.2.2.2.2.2.2.2.2.2.2.2.2.1, v495.2.2.2.2.2.2.2.2.2.2.2.2.2.2.1, v495.2.2.2.2.2.2.2.2.2.2.2.2.2.2.2)] : List (Int × ByteArray × ByteArray × ((Option Addr × Nat) × List ByteArray) × Int × Int × Nat × Nat × Nat × ByteArray × Int × Bool × ((Option Addr × Nat) × List Int) × Nat × ByteArray × ByteArray)))).symm | (rw [hz514, (ec_vw c55_len)]; exact (ec_app (c := c55) (xs := X407) (ys := ([(v495.1, v495.2.1, v495.2.2.1, ((A502, c503), v495.2.2.2.1), v495.2.2.2.2.1, v495.2.2.2.2.2.1, v495.2.2.2.2.2.2.1, v495.2.2.2.2.2.2.2.1, v495.2.2.2.2.2.2.2.2.1, v495.2.2.2.2.2.2.2.2.2.1, v495.2.2.2.2.2.2.2.2.2.2.1, v495.2.2.2.2.2.2.2.2.2.2.2.1, ((A506, c507), v495.2.2.2.2.2.2.2.2.2.2.2.2.1), v495.2.2.2.2.2.2.2.2.2.2.2.2.2.1, v495.2.2.2.2.2.2.2.2.2.2.2.2.2.2.1, v495.2.2.2.2.2.2.2.2.2.2.2.2.2.2.2)] : List (Int × ByteArray × ByteArray × ((Option Addr × Nat) × List ByteArray) × Int × Int × Nat × Nat × Nat × ByteArray × Int × Bool × ((Option Addr × Nat) × List Int) × Nat × ByteArray × ByteArray)))).symm) | (refine hz514.trans (Eq.trans ?_ (ec_app (c := c55) (xs := X407) (ys := ([(v495.1, v495.2.1, v495.2.2.1, ((A502, c503), v495.2.2.2.1), v495.2.2.2.2.1, v495.2.2.2.2.2.1, v495.2.2.2.2.2.2.1, v495.2.2.2.2.2.2.2.1, v495.2.2.2.2.2.2.2.2.1, v495.2.2.2.2.2.2.2.2.2.1, v495.2.2.2.2.2.2.2.2.2.2.1, v495.2.2.2.2.2.2.2.2.2.2.2.1, ((A506, c507), v495.2.2.2.2.2.2.2.2.2.2.2.2.1), v495.2.2.2.2.2.2.2.2.2.2.2.2.2.1, v495.2.2.2.2.2.2.2.2.2.2.2.2.2.2.1, v495.2.2.2.2.2.2.2.2.2.2.2.2.2.2.2)] : List (Int × ByteArray × ByteArray × ((Option Addr × Nat) × List ByteArray) × Int × Int × Nat × Nat × Nat × ByteArray × Int × Bool × ((Option Addr × Nat) × List Int) × Nat × ByteArray × ByteArray)))).symm); refine congrArg (_ ++ ·) ?_; simp [ec, c55]; done))
    refine ob_ck H fun h519 H => ?_
    replace H := some_st H
    refine ⟨(m351, ((s350.1 ++ ([(v495.1, v495.2.1, v495.2.2.1, v495.2.2.2.1, v495.2.2.2.2.1, v495.2.2.2.2.2.1, v495.2.2.2.2.2.2.1, v495.2.2.2.2.2.2.2.1, v495.2.2.2.2.2.2.2.2.1, v495.2.2.2.2.2.2.2.2.2.1, v495.2.2.2.2.2.2.2.2.2.2.1, v495.2.2.2.2.2.2.2.2.2.2.2.1, v495.2.2.2.2.2.2.2.2.2.2.2.2.1, v495.2.2.2.2.2.2.2.2.2.2.2.2.2.1, v495.2.2.2.2.2.2.2.2.2.2.2.2.2.2.1, v495.2.2.2.2.2.2.2.2.2.2.2.2.2.2.2)] : List (Int × ByteArray × ByteArray × (List ByteArray) × Int × Int × Nat × Nat × Nat × ByteArray × Int × Bool × (List Int) × Nat × ByteArray × ByteArray))), s350.2 + 1), X515), ⟨H, Nat.lt_succ_self _⟩, ⟨hE516, hP517⟩, ⟨fun _ _ _ h => (hq499 _ _ _ (hq348 _ _ _ h))⟩, ?_⟩
    repeat refine mo2VW ?_
    first | exact trivial | exact rfl
   ·replace H := some_st H
    dsimp only [stp, sm] at H
    refine ⟨(s350.1, X407), ⟨H, hE408, hin406⟩, ⟨fun _ _ _ h => (hq348 _ _ _ h)⟩, ?_⟩
    repeat refine mo2VW ?_
    first | exact trivial | exact rfl
  ·replace H := some_st H
   dsimp only [stp, sm] at H
   refine ⟨(s350.1, X407), ⟨H, hE408, hin406⟩, ⟨fun _ _ _ h => (hq348 _ _ _ h)⟩, ?_⟩
   repeat refine mo2VW ?_
   first | exact trivial | exact rfl
 ·rintro q345 hq344 ⟨v346, X525⟩ ⟨H, hE526, hin524⟩
  dsimp only at H hin524 hE526
  refine R.cut_fam H 47 [1, 2] [] (fun v574 => [(5, .own 47)]) (fun v574 => [(47, .arr 9 1 (v574.length) (es (v574)))]) [(27, .arr 55 16 (v346.length) (ec c55 (X525))), (0, .cells 25 [.v (.string (a0.1.extract (0 : Int).toNat (gmin (a0.1.size : Int) 400).toNat)), .own 27, .v (.slice (A0_2) (a0.2.2.1.length) (cp0_2)), .v (.int .i64 (a0.2.2.2))]), (1, .cells 25 [.v (.string ((⟨#[]⟩ : ByteArray))), .v (.slice none 0 0), .v (.slice none 0 0), .v (.int .i64 (0))])] 1 (fun H => ?_)
  refine And.intro ?_ ?_
  ·refine R.loop_fam (bind_st H) [1, 2] [(5, 0, 9, 1)] (fun _ s578 => [(5, .own 34), (6, .v (.int .i64 (s578.2)))]) (fun _ s578 => [(34, .arr 9 1 (s578.1.length) (es (s578.1)))]) 1 (fun n613 H => ?_)
   refine ⟨(n613, _), ⟨H⟩, ⟨trivial⟩, ?_⟩
   repeat refine mo2VW ?_
   rintro ⟨m0, s578⟩ H _
   obtain ⟨m579, hm0, H⟩ := IG_succ H
   dsimp only at hm0
   subst hm0
   try dsimp only at H
   refine if_st H (fun h602 H => ?_) (fun h602 H => ?_)
   ·refine if_st H (fun h603 H => ?_) (fun h603 H => ?_)
    ·refine And.intro ⟨by kernel_rfl⟩ ?_
     refine ⟨(Pn.calm 0 (Pn.calm 1 (Pn.calm 2 (Pn.calm 3 (Pn.calm 4 (Pn.calm 5 (Pn.calm 6 (Pn.calm 7 (Pn.calm 8 (Pn.calm 9 (Pn.calm 10 (Pn.calm 11 (Pn.calm 12 (Pn.calm 13 (Pn.eff 14 [13, 5, 12, 4, 11, 2, 3, 10, 1, 9, 7, 8, 6] (Pn.eff 15 [0, 14, 13, 5, 12, 4, 11, 2, 3, 10, 1, 9, 7, 8, 6] (Pn.calm 16 Pn.done) Pn.no) Pn.no))))))))))))))), ⟨by kernel_rfl⟩, ?_⟩
     refine ob_ix (Reads.mono hq344 hR0_2) (fun h => es0 h) H fun h604 H => ?_
     refine ld_str (e := a0.2.2.1.getD s578.2.toNat default) (rd_get (Reads.mono hq344 hR0_2) (es_get (l := a0.2.2.1) (tn h604))) ?_
     refine ob_ix (Reads.mono hq344 hR0_2) (fun h => es0 h) H fun h605 H => ?_
     refine ld_str (e := a0.2.2.1.getD s578.2.toNat default) (rd_get (Reads.mono hq344 hR0_2) (es_get (l := a0.2.2.1) (tn h605))) ?_
     refine ob_ck H fun h606 H => ?_
     refine And.intro ?_ trivial
     refine And.intro ⟨fun _ _ _ h => h⟩ ?_
     refine And.intro ?_ trivial
     refine ob_app (by decide) (by first | exact es_one | ((repeat (refine List.forall_mem_cons.2 ⟨rfl, ?_⟩)); intro y hy; cases hy; done) | (intro y hy; simp [ei, eb, es, ec, c55] at hy; (first | (rcases hy with rfl | hy) | subst hy | skip); all_goals first | rfl | simp_all [Value.oneCell'])) H fun h607 H => ?_
     intro n608 zs610 hn609 hz611
     obtain rfl : n608 = (s578.1 ++ [(a0.2.2.1.getD s578.2.toNat default).extract (0 : Int).toNat (gmin ((a0.2.2.1.getD s578.2.toNat default).size : Int) 300).toNat]).length := hn609.trans (by first | exact List.length_append.symm | (simp; done) | (simp; omega))
     obtain rfl : zs610 = es (s578.1 ++ [(a0.2.2.1.getD s578.2.toNat default).extract (0 : Int).toNat (gmin ((a0.2.2.1.getD s578.2.toNat default).size : Int) 300).toNat]) := by first | exact hz611.trans (es_app (xs := s578.1) (ys := ([(a0.2.2.1.getD s578.2.toNat default).extract (0 : Int).toNat (gmin ((a0.2.2.1.getD s578.2.toNat default).size : Int) 300).toNat]))).symm | (rw [hz611, es_vw]; first | exact es_app.symm | exact (es_app (xs := s578.1)).symm) | (rw [hz611]; simp [ei, eb, es, ec, c55])
     refine And.intro ⟨fun _ _ _ h => h⟩ ?_
     refine ob_ck H fun h612 H => ?_
     replace H := some_st H
     refine ⟨(m579, ((s578.1 ++ [(a0.2.2.1.getD s578.2.toNat default).extract (0 : Int).toNat (gmin ((a0.2.2.1.getD s578.2.toNat default).size : Int) 300).toNat]), s578.2 + 1)), ⟨H, Nat.lt_succ_self _⟩, ⟨trivial⟩, ⟨rfl⟩, ?_⟩
     repeat refine mo2VW ?_
     first | exact trivial | exact rfl
    ·replace H := some_st H
     dsimp only [stp, sm] at H
     refine ⟨s578.1, ⟨H⟩, ⟨rfl⟩, ?_⟩
     repeat refine mo2VW ?_
     first | exact trivial | exact rfl
   ·replace H := some_st H
    dsimp only [stp, sm] at H
    refine ⟨s578.1, ⟨H⟩, ⟨rfl⟩, ?_⟩
    repeat refine mo2VW ?_
    first | exact trivial | exact rfl
  ·intro v574 H
   intro q614 A615 c616 hq617 hc618 hR619
   replace hR619 : Reads q614 A615 (ec c55 X525) := Eq.mp (congrArg (Reads q614 A615) (by first | exact rfl | (simp only [ei, eb, es, ec, c55, gmin, gmax, List.map_append, List.flatMap_append, List.nil_append, List.append_nil, List.append_assoc]; done))) hR619
   intro q620 A621 c622 hq623 hc624 hR625
   replace hR625 : Reads q620 A621 (es v574) := Eq.mp (congrArg (Reads q620 A621) (by first | exact rfl | (simp only [ei, eb, es, ec, c55, gmin, gmax, List.map_append, List.flatMap_append, List.nil_append, List.append_nil, List.append_assoc]; done))) hR625
   have hfin := fin_st H
   first | subst hfin | (replace hfin := hfin.symm; subst hfin) | rw [← hfin]
   refine ⟨((A615, c616), (A621, c622), X525), ⟨⟨hc618, hc624, hE526, P55.cap (fun p hp => P55.mono hq623 ((fun p hp => P55.mono hq617 (hin524 p hp)) p hp))⟩⟩, ⟨(rdsOk_app.2 ⟨⟨(Reads.mono hq623 hR619), hR625, trivial⟩, P55.rds (fun p hp => P55.mono hq623 ((fun p hp => P55.mono hq617 (hin524 p hp)) p hp))⟩)⟩, ?_⟩
   repeat refine mo2VW ?_
   first | exact trivial | exact rfl
end Go.Proofs.YtnlglgafokjhnaaGreat
end
section
namespace Go.Proofs.YtnlglgafokjhnaaGreat
open Go Go.Eng Go.RowKit Go.Eng.Exe
noncomputable section
abbrev DP := (ByteArray × List (Int × ByteArray × ByteArray × (List ByteArray) × Int × Int × Nat × Nat × Nat × ByteArray × Int × Bool × (List Int) × Nat × ByteArray × ByteArray) × List ByteArray × Int)
abbrev FX := (Int × ByteArray × ByteArray × ((Option Addr × Nat) × List ByteArray) × Int × Int × Nat × Nat × Nat × ByteArray × Int × Bool × ((Option Addr × Nat) × List Int) × Nat × ByteArray × ByteArray)
theorem zlt {k : Nat} (hk : (match Nat.beq 0 k with | true => true | false => false) = true) : k < 5 := by
  split at hk
  · rename_i h; have := Nat.eq_of_beq_eq_true h; omega
  · cases hk
def VA (n0 nk : Nat) (q : PH) (fr : Fr) (L : LL) (K : Ke) : Prop := vcC (envC [k4] false []) (vcN (envC [k4] false []) 6) 3 false n0 Tryz.f3.ntmps (sq1 bodyC) [] none nk q fr L K
def VB (n0 nk : Nat) (q : PH) (fr : Fr) (L : LL) (K : Ke) : Prop := vcC (envC [k4] false []) (vcN (envC [k4] false []) 6) 3 false n0 Tryz.f3.ntmps (sq1 (sq2 bodyC)) [] none nk q fr L K
def VX (n0 nk : Nat) (q : PH) (fr : Fr) (L : LL) (K : Ke) : Prop := vX XV (xN XV 1000 30) 1000 Tryz.f3.ntmps [] none restC n0 nk q fr L K
def VS (n0 nk : Nat) (q : PH) (fr : Fr) (L : LL) (K : Ke) : Prop := VA n0 nk q fr L (thenE (fun nk q fr L => VB n0 nk q fr L (thenE (fun nk q fr L => VX n0 nk q fr L K) K)) K)
theorem law3 (a0 : DP) (a1 a2 : Int) (v1 : DP) (hg : g4 a0 = some v1) (A0_1 : Option Addr) (cp0_1 : Nat) (A0_2 : Option Addr) (cp0_2 : Nat) (X0_1 : List FX)
    (hc0_1 : a0.2.1.length ≤ cp0_1) (hc0_2 : a0.2.2.1.length ≤ cp0_2) (hE0_1 : X0_1.map e55 = a0.2.1) (hC0_1 : ∀ p ∈ X0_1, cap55 p) (w : World)
    (hrds : Eng.RdsOk (phOf w) ([(A0_1, ec c55 X0_1), (A0_2, es a0.2.2.1)] ++ X0_1.flatMap R55)) :
    Calls Tryz.prog 3 #[.agg #[.string a0.1, .slice A0_1 a0.2.1.length cp0_1, .slice A0_2 a0.2.2.1.length cp0_2, .int .i64 a0.2.2.2], .int .i64 a1, .int .i64 a2] w fun e w' => e = .returned (.bool true) ∧ Below w.heap.size w w' := by
  have hE : EnvOk Tryz.prog (envC [k4] false []) := envC_ok (css_cons ⟨fun h => (by cases h), fun _ => k4_ok⟩ css_nil)
  have hI := vcN_ok hE.mix hE.T ⟨hE.Γ, hE.Δ⟩ hE.FT 6
  have hbody : Tryz.f3.body = some (.seq (sq1 bodyC) (.seq (sq1 (sq2 bodyC)) restC)) := by kernel_rfl
  have hV : CodeOk Tryz.prog Tryz.f3.ntmps [] none (.seq (sq1 bodyC) (.seq (sq1 (sq2 bodyC)) restC)) VS := codeOk_seq (vx := VA) (vy := fun n0 nk q fr L K => VB n0 nk q fr L (thenE (fun nk q fr L => VX n0 nk q fr L K) K)) (vcC_ok hE.mix hE.T ⟨hE.Γ, hE.Δ⟩ hI 3 false (sq1 bodyC) [] none) (codeOk_seq (vx := VB) (vy := VX) (vcC_ok hE.mix hE.T ⟨hE.Γ, hE.Δ⟩ hI 3 false (sq1 (sq2 bodyC)) [] none) (xC_ok (lf := 1000) (Yx' := []) xv_ok (xN_ok (lf := 1000) xv_ok xv_prims xx_bodies 30) (fun k hx h => by cases h) restC (by kernel_rfl) none))
  refine (fn_ok (X := XV) (V := VS) xv_ok Tryz.func3 nm3 hbody (args := [.agg [.v (.string a0.1), .v (.slice A0_1 a0.2.1.length cp0_1), .v (.slice A0_2 a0.2.2.1.length cp0_2), .v (.int .i64 a0.2.2.2)], .v (.int .i64 a1), .v (.int .i64 a2)])
    (vs := [.agg #[.string a0.1, .slice A0_1 a0.2.1.length cp0_1, .slice A0_2 a0.2.2.1.length cp0_2, .int .i64 a0.2.2.2], .int .i64 a1, .int .i64 a2]) (S := S0) ⟨⟨_, rfl, rfl, rfl, rfl, rfl, trivial⟩, rfl, rfl, trivial⟩ (show 3 ≤ Tryz.f3.ntmps by decide)
    hV w fun K hK => ?_).2
  obtain ⟨hrds, hF0_1⟩ := rdsOk_app.1 hrds
  obtain ⟨hR0_1, hR0_2, _⟩ := hrds
  unfold VS VA VB
  rw [← R.vcN_eq, ← R.vcC_eq]
  refine ⟨((a0.1, a0.2.1, a0.2.2.1, a0.2.2.2), v1, ((A0_1, cp0_1), (A0_2, cp0_2)), X0_1), ⟨hg, hc0_1, hc0_2, hE0_1, P55.cap (P55.of hF0_1 hC0_1)⟩, ⟨(rdsOk_app.2 ⟨⟨hR0_1, hR0_2, trivial⟩, P55.rds (P55.of hF0_1 hC0_1)⟩)⟩, ?_⟩
  iterate 4 refine And.intro ⟨rfl⟩ ?_
  intro q3 g4 hq5 hok6 hrd7
  obtain ⟨⟨A8, c9⟩, ⟨A12, c13⟩, X18⟩ := g4
  suffices hx : VX 0 5 q3 (frV a1 a2 (dV a0.1 A0_1 A0_2 a0.2.1.length cp0_1 a0.2.2.1.length cp0_2 a0.2.2.2) (dV v1.1 A8 A12 v1.2.1.length c9 v1.2.2.1.length c13 v1.2.2.2)) [(0, blkV v1.1 A8 A12 v1.2.1.length c9 v1.2.2.1.length c13 v1.2.2.2)] K by
    exact hx
  obtain ⟨ex, nk', fr', M', l, h1, h2, h3, h4⟩ := rest_ok (runV a0.1 v1.1 A0_1 A0_2 A8 A12 a0.2.1.length cp0_1 a0.2.2.1.length cp0_2 v1.2.1.length c9 v1.2.2.1.length c13 a0.2.2.2 v1.2.2.2 a1 a2)
  refine ⟨_, ex, nk', fr', M', ?_, ?_, ?_, Nat.zero_le _, h1, fun q' L' hR hf hl hle => hK _ _ _ _ _ ⟨h2, M', l, hR, h3, h4, hf, hl⟩⟩
  · exact Rep.new (M := .lf) (L := []) (k := 0) (fun k => by cases k <;> rfl) rfl
  · exact fun k hk => zlt hk
  · exact fun k hk => zlt hk
end
end Go.Proofs.YtnlglgafokjhnaaGreat
end
