/-
  Texts that the law leans on. Nothing here is trusted.
-/
import Derived.Test.YtenjkphlbdhaiaaGreatZR1
import Derived.Test.YtenjkphlbdhaiaaGreatBldZB
import Derived.Test.YtenjkphlbdhaiaaGreatEngLd
set_option linter.unusedVariables false
set_option linter.unusedSimpArgs false
section
namespace Go.Proofs.YtenjkphlbdhaiaaGreat
open Go Go.Eng
theorem mo1ZS1 {p q : Prop} (k : q) (h : p := by first | exact rfl | exact Iff.rfl | exact ⟨rfl, rfl⟩ | exact decide_eq_true_iff | (constructor <;> first | exact rfl | (simp only [ei, eb, es, ec, c133, gmin, gmax, List.map_append, List.flatMap_append, List.nil_append, List.append_nil, List.append_assoc]; done) | omega | (simp only [List.nil_append, List.length_append, List.length_cons, List.length_nil]; omega) | (simp [ei, eb, es, ec, c133, gmin, gmax]; done)) | exact rfl | (simp only [ei, eb, es, ec, c133, gmin, gmax, List.map_append, List.flatMap_append, List.nil_append, List.append_nil, List.append_assoc]; done) | omega | (simp only [List.nil_append, List.length_append, List.length_cons, List.length_nil]; omega) | (simp [ei, eb, es, ec, c133, gmin, gmax]; done) | simp [ei, eb, es, ec, c133, gmin, gmax]) : Ob p ∧ q := ⟨⟨h⟩, k⟩
theorem mf1ZS1 {p q : Prop} (k : q) (h : p := by first | (rw [← hfin] <;> first | exact rfl | exact Iff.rfl | exact ⟨rfl, rfl⟩ | exact decide_eq_true_iff | (constructor <;> first | exact rfl | (simp only [ei, eb, es, ec, c133, gmin, gmax, List.map_append, List.flatMap_append, List.nil_append, List.append_nil, List.append_assoc]; done) | omega | (simp only [List.nil_append, List.length_append, List.length_cons, List.length_nil]; omega) | (simp [ei, eb, es, ec, c133, gmin, gmax]; done)) | exact rfl | (simp only [ei, eb, es, ec, c133, gmin, gmax, List.map_append, List.flatMap_append, List.nil_append, List.append_nil, List.append_assoc]; done) | omega | (simp only [List.nil_append, List.length_append, List.length_cons, List.length_nil]; omega) | (simp [ei, eb, es, ec, c133, gmin, gmax]; done) | simp [ei, eb, es, ec, c133, gmin, gmax]) | first | exact rfl | exact Iff.rfl | exact ⟨rfl, rfl⟩ | exact decide_eq_true_iff | (constructor <;> first | exact rfl | (simp only [ei, eb, es, ec, c133, gmin, gmax, List.map_append, List.flatMap_append, List.nil_append, List.append_nil, List.append_assoc]; done) | omega | (simp only [List.nil_append, List.length_append, List.length_cons, List.length_nil]; omega) | (simp [ei, eb, es, ec, c133, gmin, gmax]; done)) | exact rfl | (simp only [ei, eb, es, ec, c133, gmin, gmax, List.map_append, List.flatMap_append, List.nil_append, List.append_nil, List.append_assoc]; done) | omega | (simp only [List.nil_append, List.length_append, List.length_cons, List.length_nil]; omega) | (simp [ei, eb, es, ec, c133, gmin, gmax]; done) | simp [ei, eb, es, ec, c133, gmin, gmax]) : Ob p ∧ q := ⟨⟨h⟩, k⟩
noncomputable def g44 (a0 : List Int) (a1 : ByteArray) : Option (Int × List Int) :=
 (g57 a0).bind fun v1 =>
 ck (v1.length + a1.size ≤ 140737488355328) <|
 some ((a1.size : Int), (v1 ++ bytesOf a1))
noncomputable def k44 : Eng.CS := { f := 44, calm := false, more := 3, ι := (List Int) × ByteArray × (Int × List Int), ok := fun i => g44 i.1 i.2.1 = some i.2.2, rds := fun _ => [], args := fun i => [.w (.lp 0 0), .w (.v (.string (i.2.1)))], res := fun i => .tup [.v (.int .i64 (i.2.2.1)), .bad], L' := fun i => [(0, .cells 82 [.lq 0, .own 2]), (2, .arr 5 1 i.2.2.2.length (ei .u8 i.2.2.2))], rn := [(100000, 1, 5, 1)], keys := 2, L := fun i => [(0, .cells 82 [.lq 0, .own 1]), (1, .arr 5 1 i.1.length (ei .u8 i.1))] }
set_option maxRecDepth 8000 in
set_option maxHeartbeats 4000000 in
theorem k44_ok : CSOk Tryz.prog k44 := by
 refine R.cspec Tryz.func44 nm44 rfl ?_
 rintro ⟨a0, a1, r⟩ hok q _ args hargs
 dsimp only [k44] at hargs ⊢
 match args, hargs with
 | [_, _], hargs =>
 obtain ⟨rfl, rfl, _⟩ := hargs
 refine ⟨envC [k57] false [], 6, envC_ok (css_cons ⟨fun h => (by cases h), fun _ => k57_ok⟩ (css_nil)), ?_⟩
 have H : Gives (g44 a0 a1) (fun a => a = r) := ⟨r, hok, rfl⟩
 unfold g44 at H
 clear hok
 obtain ⟨v1, hv2, H⟩ := call_st H
 refine ⟨(a0, v1), ⟨hv2⟩, ⟨trivial⟩, ?_⟩
 refine And.intro ⟨rfl⟩ ?_
 refine mo1ZS1 ?_
 refine ob_ck H fun h3 H => ?_
 intro n4 zs6 hn5 hz7
 obtain rfl : n4 = (v1 ++ bytesOf a1).length := hn5.trans (len_appS (xs := v1) (s := a1))
 obtain rfl : zs6 = ei .u8 (v1 ++ bytesOf a1) := hz7.trans (ei_appS (xs := v1) (s := a1))
 have hfin := fin_st H
 repeat refine mf1ZS1 ?_
 first | exact trivial | exact rfl
noncomputable def g12 (a0 : (Int × List ByteArray × Int × Int)) : Option (ByteArray) :=
 jn (α := _) (β := List Int) (fun k36 =>
   (g34 a0).bind fun v37 =>
   (loopO (σ := List Int × Int) (ρ := List Int) (fun s41 =>
     if s41.2 < ((v37.length : Nat) : Int) then
      (
       ck (0 ≤ s41.2 ∧ s41.2 < ((v37.length : Nat) : Int)) <|
       (g44 s41.1 (v37.getD s41.2.toNat default)).bind fun v56 =>
       ck (inR .i64 (s41.2 + 1)) <|
       some (.go (v56.2, s41.2 + 1))
      )
     else
      some (.out s41.1)
    ) ([], 0)).bind fun o53 =>
    k36 o53
 ) (fun v35 =>
  (g45 v35).bind fun v60 =>
  some v60
 )
noncomputable def k12 : Eng.CS := { f := 12, calm := true, more := 0, ι := (Int × List ByteArray × Int × Int) × ByteArray, ok := fun i => g12 i.1 = some i.2, rds := fun _ => [], args := fun i => [.pt [.w (.int .i64 i.1.1), .row 1 i.1.2.1.length (es i.1.2.1), .w (.int .i64 i.1.2.2.1), .w (.int .i64 i.1.2.2.2)]], res := fun i => .v (.string (i.2)) }
set_option maxRecDepth 8000 in
set_option maxHeartbeats 4000000 in
theorem k12_ok : CalmOk Tryz.prog k12 := by
 refine R.calmspec Tryz.func12 nm12 rfl ?_
 rintro ⟨a0, r⟩ hok q _ args hargs
 dsimp only [k12] at hargs ⊢
 match args, hargs with
 | [_], hargs =>
 obtain ⟨⟨P0, us0, rfl, hs0, _, hR0, hpc0⟩, _⟩ := hargs
 match us0, hR0, hpc0 with
 | [_, _, _, _], hR0, hpc0 =>
 obtain ⟨rfl, ⟨A0_1, c0_1, rfl, hcr0_1, _, hRr0_1⟩, rfl, rfl, _⟩ := hpc0
 refine ⟨envC [k34, k44, k45] false [(12, 5)], 6, envC_ok (css_cons ⟨fun h => (by cases h), fun _ => k34_ok⟩ (css_cons ⟨fun h => (by cases h), fun _ => k44_ok⟩ (css_cons ⟨fun h => (by cases h), fun _ => k45_ok⟩ (css_nil)))), rfl, (by intro x hx; simp only [List.mem_cons, List.not_mem_nil, or_false] at hx; rcases hx with rfl <;> rfl), ?_⟩
 have H : Gives (g12 a0) (fun a => a = r) := ⟨r, hok, rfl⟩
 unfold g12 at H
 clear hok
 refine R.cut_fam H 21 [3] [] (fun v35 => []) (fun v35 => [(1, .cells 82 [.lq 1, .own 21]), (21, .arr 5 1 (v35.length) (ei .u8 (v35)))]) [] 1 (fun H => ?_)
 refine And.intro ?_ ?_
 ·obtain ⟨v37, hv38, H⟩ := call_st H
  refine ⟨(a0, v37), ⟨hv38⟩, ⟨trivial⟩, ?_⟩
  refine And.intro ⟨hs0, _, rfl, hR0, rfl, ⟨_, _, rfl, hcr0_1, es_len.trans (Nat.mul_one _).symm, hRr0_1⟩, rfl, rfl, trivial⟩ ?_
  refine R.loop_fam (bind_st H) [0, 6, 7] [(100001, 1, 5, 1)] (fun _ s41 => [(8, .v (.int .i64 (s41.2)))]) (fun _ s41 => [(1, .cells 82 [.lq 1, .own 16]), (16, .arr 5 1 (s41.1.length) (ei .u8 (s41.1)))]) 1 (fun n59 H => ?_)
  refine ⟨(n59, _), ⟨H⟩, ⟨trivial⟩, ?_⟩
  repeat refine mo1ZS1 ?_
  rintro ⟨m0, s41⟩ H _
  obtain ⟨m42, hm0, H⟩ := IG_succ H
  dsimp only at hm0
  subst hm0
  try dsimp only at H
  refine if_st H (fun h54 H => ?_) (fun h54 H => ?_)
  ·refine ob_ck H fun h55 H => ?_
   refine ld_str (e := v37.getD s41.2.toNat default) (own_get (ys := es v37) (by first | rfl | simp [ei, eb, es, ec, c133]) (es_get (l := v37) (by first | exact tn h55 | (have := tn h55; simp at this ⊢; omega) | (have := tn h55; simp; omega)))) ?_
   obtain ⟨v56, hv57, H⟩ := call_st H
   refine ⟨(s41.1, v37.getD s41.2.toNat default, v56), ⟨hv57⟩, ⟨trivial⟩, ?_⟩
   iterate 2 refine And.intro ⟨rfl⟩ ?_
   refine mo1ZS1 ?_
   refine ob_ck H fun h58 H => ?_
   replace H := some_st H
   refine ⟨(m42, (v56.2, s41.2 + 1)), ⟨H, Nat.lt_succ_self _⟩, ⟨trivial⟩, ⟨rfl⟩, ?_⟩
   repeat refine mo1ZS1 ?_
   first | exact trivial | exact rfl
  ·replace H := some_st H
   dsimp only [stp, sm] at H
   refine ⟨s41.1, ⟨H⟩, ⟨rfl⟩, ?_⟩
   repeat refine mo1ZS1 ?_
   first | exact trivial | exact rfl
 ·intro v35 H
  obtain ⟨v60, hv61, H⟩ := call_st H
  refine ⟨(v35, v60), ⟨hv61⟩, ⟨trivial⟩, ?_⟩
  refine And.intro ⟨rfl⟩ ?_
  refine mo1ZS1 ?_
  have hfin := fin_st H
  repeat refine mf1ZS1 ?_
  first | exact trivial | exact rfl
end Go.Proofs.YtenjkphlbdhaiaaGreat
end
section
namespace Go.Proofs.YtenjkphlbdhaiaaGreat
open Go Go.Eng
theorem mo1ZA {p q : Prop} (k : q) (h : p := by first | exact rfl | exact Iff.rfl | exact ⟨rfl, rfl⟩ | exact decide_eq_true_iff | (constructor <;> first | exact rfl | (simp only [ei, eb, es, ec, c133, gmin, gmax, List.map_append, List.flatMap_append, List.nil_append, List.append_nil, List.append_assoc]; done) | omega | (simp only [List.nil_append, List.length_append, List.length_cons, List.length_nil]; omega) | (simp [ei, eb, es, ec, c133, gmin, gmax]; done)) | exact rfl | (simp only [ei, eb, es, ec, c133, gmin, gmax, List.map_append, List.flatMap_append, List.nil_append, List.append_nil, List.append_assoc]; done) | omega | (simp only [List.nil_append, List.length_append, List.length_cons, List.length_nil]; omega) | (simp [ei, eb, es, ec, c133, gmin, gmax]; done) | simp [ei, eb, es, ec, c133, gmin, gmax]) : Ob p ∧ q := ⟨⟨h⟩, k⟩
theorem mf1ZA {p q : Prop} (k : q) (h : p := by first | (rw [← hfin] <;> first | exact rfl | exact Iff.rfl | exact ⟨rfl, rfl⟩ | exact decide_eq_true_iff | (constructor <;> first | exact rfl | (simp only [ei, eb, es, ec, c133, gmin, gmax, List.map_append, List.flatMap_append, List.nil_append, List.append_nil, List.append_assoc]; done) | omega | (simp only [List.nil_append, List.length_append, List.length_cons, List.length_nil]; omega) | (simp [ei, eb, es, ec, c133, gmin, gmax]; done)) | exact rfl | (simp only [ei, eb, es, ec, c133, gmin, gmax, List.map_append, List.flatMap_append, List.nil_append, List.append_nil, List.append_assoc]; done) | omega | (simp only [List.nil_append, List.length_append, List.length_cons, List.length_nil]; omega) | (simp [ei, eb, es, ec, c133, gmin, gmax]; done) | simp [ei, eb, es, ec, c133, gmin, gmax]) | first | exact rfl | exact Iff.rfl | exact ⟨rfl, rfl⟩ | exact decide_eq_true_iff | (constructor <;> first | exact rfl | (simp only [ei, eb, es, ec, c133, gmin, gmax, List.map_append, List.flatMap_append, List.nil_append, List.append_nil, List.append_assoc]; done) | omega | (simp only [List.nil_append, List.length_append, List.length_cons, List.length_nil]; omega) | (simp [ei, eb, es, ec, c133, gmin, gmax]; done)) | exact rfl | (simp only [ei, eb, es, ec, c133, gmin, gmax, List.map_append, List.flatMap_append, List.nil_append, List.append_nil, List.append_assoc]; done) | omega | (simp only [List.nil_append, List.length_append, List.length_cons, List.length_nil]; omega) | (simp [ei, eb, es, ec, c133, gmin, gmax]; done) | simp [ei, eb, es, ec, c133, gmin, gmax]) : Ob p ∧ q := ⟨⟨h⟩, k⟩
noncomputable def g6  : Option (Bool) :=
 (g10 (3, [], 0, 0) ([(lit [97]), (lit [98])])).bind fun v1 =>
 (g11 (v1.2.1, v1.2.2.1, v1.2.2.2.1, v1.2.2.2.2) 1).bind fun v3 =>
 (g10 (v3.2.1, v3.2.2.1, v3.2.2.2.1, v3.2.2.2.2) ([(lit [99])])).bind fun v5 =>
 (g10 (v5.2.1, v5.2.2.1, v5.2.2.2.1, v5.2.2.2.2) ([(lit [100])])).bind fun v7 =>
 (g12 (v7.2.1, v7.2.2.1, v7.2.2.2.1, v7.2.2.2.2)).bind fun v9 =>
 jn (α := _) (β := Int × List ByteArray × Int × Int × List ByteArray) (fun k87 =>
   (g39 (v7.2.1, v7.2.2.1, v7.2.2.2.1, v7.2.2.2.2)).bind fun v88 =>
   if ¬ (v88 = true) then
    k87 (v7.2.1, v7.2.2.1, v7.2.2.2.1, v7.2.2.2.2, ([] : List ByteArray))
   else
    (
     (g43 (v7.2.1, v7.2.2.1, v7.2.2.2.1, v7.2.2.2.2) 0).bind fun v91 =>
     (g43 (v7.2.1, v7.2.2.1, v7.2.2.2.1, v7.2.2.2.2) 2).bind fun v93 =>
     if v93 ≤ v91 then
      k87 (v7.2.1, v7.2.2.1, v7.2.2.2.1, v7.2.2.2.2, ([] : List ByteArray))
     else
      (
       (g34 (v7.2.1, v7.2.2.1, v7.2.2.2.1, v7.2.2.2.2)).bind fun v96 =>
       ck (0 ≤ v91 ∧ v91 ≤ v93 ∧ v93 ≤ v93 ∧ v93 ≤ ((v96.length : Nat) : Int)) <|
       (g11 (v7.2.1, v7.2.2.1, v7.2.2.2.1, v7.2.2.2.2) v91).bind fun v101 =>
       ck (inR .i64 (v93 - v91)) <|
       ck (inR .i64 (v101.2.2.2.2 + (v93 - v91))) <|
       if v93 ≤ v7.2.2.2.1 then
        (
         ck (inR .i64 (v93 - v91)) <|
         ck (inR .i64 (v7.2.2.2.1 - (v93 - v91))) <|
         (g11 (v101.2.1, v101.2.2.1, v101.2.2.2.1, v101.2.2.2.2 + (v93 - v91)) (v7.2.2.2.1 - (v93 - v91))).bind fun v108 =>
         k87 (v108.2.1, v108.2.2.1, v108.2.2.2.1, v108.2.2.2.2, ((v96.drop v91.toNat).take (v93.toNat - v91.toNat)))
        )
       else
        (
         if v7.2.2.2.1 < v91 then
          (
           (g11 (v101.2.1, v101.2.2.1, v101.2.2.2.1, v101.2.2.2.2 + (v93 - v91)) v7.2.2.2.1).bind fun v123 =>
           k87 (v123.2.1, v123.2.2.1, v123.2.2.2.1, v123.2.2.2.2, ((v96.drop v91.toNat).take (v93.toNat - v91.toNat)))
          )
         else
          k87 (v101.2.1, v101.2.2.1, v101.2.2.2.1, v101.2.2.2.2 + (v93 - v91), ((v96.drop v91.toNat).take (v93.toNat - v91.toNat)))
        )
      )
    )
 ) (fun v86 =>
  if v1.1 = 0 then
   (
    if v3.1 = 1 then
     (
      if v5.1 = 0 then
       (
        if v7.1 = 3 then
         (
          if v9.data.toList = (lit [97, 99, 98]).data.toList then
           (
            if ((v86.2.2.2.2.length : Nat) : Int) = 2 then
             (
              ck (0 ≤ (1 : Int) ∧ 1 < ((v86.2.2.2.2.length : Nat) : Int)) <|
              if (v86.2.2.2.2.getD (1 : Int).toNat default).data.toList = (lit [99]).data.toList then
               (
                (g14 (v86.1, v86.2.1, v86.2.2.1, v86.2.2.2.1)).bind fun v161 =>
                if v161 = 0 then
                 (
                  (g12 (v86.1, v86.2.1, v86.2.2.1, v86.2.2.2.1)).bind fun v164 =>
                  some (decide (v164.data.toList = (lit [98]).data.toList))
                 )
                else
                 some false
               )
              else
               some false
             )
            else
             some false
           )
          else
           some false
         )
        else
         some false
       )
      else
       some false
     )
    else
     some false
   )
  else
   some false
 )
noncomputable def k6 : Eng.CS := { f := 6, calm := true, more := 0, ι := Bool, ok := fun i => g6  = some i, rds := fun _ => [], args := fun i => [], res := fun i => bS i }
set_option maxRecDepth 8000 in
set_option maxHeartbeats 4000000 in
theorem k6_ok : CalmOk Tryz.prog k6 := by
 refine R.calmspec Tryz.func6 nm6 rfl ?_
 rintro r hok q _ args hargs
 match args, hargs with
 | [], hargs =>
 refine ⟨envC [k10, k11, k12, k14, k34, k39, k43] false [(6, 10)], 6, envC_ok (css_cons ⟨fun h => (by cases h), fun _ => k10_ok⟩ (css_cons ⟨fun h => (by cases h), fun _ => k11_ok⟩ (css_cons ⟨fun _ => k12_ok, fun h => (by cases h)⟩ (css_cons ⟨fun _ => k14_ok, fun h => (by cases h)⟩ (css_cons ⟨fun h => (by cases h), fun _ => k34_ok⟩ (css_cons ⟨fun _ => k39_ok, fun h => (by cases h)⟩ (css_cons ⟨fun _ => k43_ok, fun h => (by cases h)⟩ (css_nil)))))))), rfl, (by intro x hx; cases hx), ?_⟩
 have H : Gives (g6 ) (fun a => a = r) := ⟨r, hok, rfl⟩
 unfold g6 at H
 clear hok
 refine And.intro (fun h => absurd h (by decide)) (fun _ => ?_)
 refine And.intro (fun h => absurd h (by decide)) (fun _ => ?_)
 refine And.intro (fun h => absurd h (by decide)) (fun _ => ?_)
 obtain ⟨v1, hv2, H⟩ := call_st H
 refine ⟨((3, [], 0, 0), [(lit [97]), (lit [98])], v1), ⟨hv2⟩, ⟨trivial⟩, ?_⟩
 refine And.intro ⟨rfl⟩ ?_
 refine And.intro ⟨by first | rfl | (simp; done), by first | rfl | (simp [ei, eb, es, ec, c133]; done) | (simp only [ei, eb, es, ec, c133, List.map_append, List.nil_append, List.append_assoc]; rfl)⟩ ?_
 iterate 4 refine mo1ZA ?_
 obtain ⟨v3, hv4, H⟩ := call_st H
 refine ⟨((v1.2.1, v1.2.2.1, v1.2.2.2.1, v1.2.2.2.2), 1, v3), ⟨hv4⟩, ⟨trivial⟩, ?_⟩
 iterate 2 refine And.intro ⟨rfl⟩ ?_
 iterate 4 refine mo1ZA ?_
 obtain ⟨v5, hv6, H⟩ := call_st H
 refine ⟨((v3.2.1, v3.2.2.1, v3.2.2.2.1, v3.2.2.2.2), [(lit [99])], v5), ⟨hv6⟩, ⟨trivial⟩, ?_⟩
 refine And.intro ⟨rfl⟩ ?_
 refine And.intro ⟨by first | rfl | (simp; done), by first | rfl | (simp [ei, eb, es, ec, c133]; done) | (simp only [ei, eb, es, ec, c133, List.map_append, List.nil_append, List.append_assoc]; rfl)⟩ ?_
 iterate 4 refine mo1ZA ?_
 obtain ⟨v7, hv8, H⟩ := call_st H
 refine ⟨((v5.2.1, v5.2.2.1, v5.2.2.2.1, v5.2.2.2.2), [(lit [100])], v7), ⟨hv8⟩, ⟨trivial⟩, ?_⟩
 refine And.intro ⟨rfl⟩ ?_
 refine And.intro ⟨by first | rfl | (simp; done), by first | rfl | (simp [ei, eb, es, ec, c133]; done) | (simp only [ei, eb, es, ec, c133, List.map_append, List.nil_append, List.append_assoc]; rfl)⟩ ?_
 iterate 4 refine mo1ZA ?_
 obtain ⟨v9, hv10, H⟩ := call_st H
 refine ⟨((v7.2.1, v7.2.2.1, v7.2.2.2.1, v7.2.2.2.2), v9), ⟨hv10⟩, ⟨trivial⟩, ?_⟩
 iterate 4 refine mo1ZA ?_
 refine R.cut_famXG H 122 [1, 3, 4, 5, 6, 7] [] [(8, 0)] (fun (v86 : Int × List ByteArray × Int × Int × List ByteArray) (g : (Option Addr × Nat)) => [(8, .v (.slice ((g.1)) (v86.2.2.2.2.length) ((g.2))))]) (fun (v86 : Int × List ByteArray × Int × Int × List ByteArray) (g : (Option Addr × Nat)) => [(17, .cells 41 [.v (.int .i64 (v86.1)), .own 122, .v (.int .i64 (v86.2.2.1)), .v (.int .i64 (v86.2.2.2.1))]), (122, .arr 9 1 (v86.2.1.length) (es (v86.2.1)))]) [(27, .arr 9 1 (2) (es ([(lit [97]), (lit [98])]))), (41, .arr 9 1 (1) (es ([(lit [99])]))), (48, .arr 9 1 (1) (es ([(lit [100])])))] 1 (fun q (v86 : Int × List ByteArray × Int × Int × List ByteArray) (g : (Option Addr × Nat)) => Reads q g.1 (es v86.2.2.2.2) ∧ v86.2.2.2.2.length ≤ g.2) (fun H => ?_)
 refine And.intro ?_ ?_
 ·obtain ⟨v88, hv89, H⟩ := call_st H
  refine ⟨((v7.2.1, v7.2.2.1, v7.2.2.2.1, v7.2.2.2.2), v88), ⟨hv89⟩, ⟨trivial⟩, ?_⟩
  iterate 4 refine mo1ZA ?_
  refine if_st H (fun h90 H => ?_) (fun h90 H => ?_)
  ·refine ⟨((v7.2.1, v7.2.2.1, v7.2.2.2.1, v7.2.2.2.2, ([] : List ByteArray)), (none, 0)), ⟨H, Reads.nil, Nat.le_refl _⟩, ⟨fun _ _ _ h => h⟩, ?_⟩
   repeat refine mo1ZA ?_
   first | exact trivial | exact rfl
  ·obtain ⟨v91, hv92, H⟩ := call_st H
   refine ⟨((v7.2.1, v7.2.2.1, v7.2.2.2.1, v7.2.2.2.2), 0, v91), ⟨hv92⟩, ⟨trivial⟩, ?_⟩
   iterate 4 refine mo1ZA ?_
   refine And.intro ⟨rfl⟩ ?_
   obtain ⟨v93, hv94, H⟩ := call_st H
   refine ⟨((v7.2.1, v7.2.2.1, v7.2.2.2.1, v7.2.2.2.2), 2, v93), ⟨hv94⟩, ⟨trivial⟩, ?_⟩
   iterate 4 refine mo1ZA ?_
   refine And.intro ⟨rfl⟩ ?_
   refine if_st H (fun h95 H => ?_) (fun h95 H => ?_)
   ·refine ⟨((v7.2.1, v7.2.2.1, v7.2.2.2.1, v7.2.2.2.2, ([] : List ByteArray)), (none, 0)), ⟨H, Reads.nil, Nat.le_refl _⟩, ⟨fun _ _ _ h => h⟩, ?_⟩
    repeat refine mo1ZA ?_
    first | exact trivial | exact rfl
   ·obtain ⟨v96, hv97, H⟩ := call_st H
    refine ⟨((v7.2.1, v7.2.2.1, v7.2.2.2.1, v7.2.2.2.2), v96), ⟨hv97⟩, ⟨trivial⟩, ?_⟩
    iterate 4 refine mo1ZA ?_
    refine ob_ck H fun h98 H => ?_
    try dsimp only at h98
    intro n99 hn100
    subst hn100
    obtain ⟨v101, hv102, H⟩ := call_st H
    refine ⟨((v7.2.1, v7.2.2.1, v7.2.2.2.1, v7.2.2.2.2), v91, v101), ⟨hv102⟩, ⟨trivial⟩, ?_⟩
    iterate 2 refine And.intro ⟨rfl⟩ ?_
    iterate 4 refine mo1ZA ?_
    refine ob_ck H fun h103 H => ?_
    refine ob_ck H fun h104 H => ?_
    refine if_st H (fun h105 H => ?_) (fun h105 H => ?_)
    ·refine ob_ck H fun h106 H => ?_
     refine ob_ck H fun h107 H => ?_
     obtain ⟨v108, hv109, H⟩ := call_st H
     refine ⟨((v101.2.1, v101.2.2.1, v101.2.2.2.1, v101.2.2.2.2 + (v93 - v91)), v7.2.2.2.1 - (v93 - v91), v108), ⟨hv109⟩, ⟨trivial⟩, ?_⟩
     iterate 2 refine And.intro ⟨rfl⟩ ?_
     iterate 4 refine mo1ZA ?_
     refine And.intro ⟨by first | omega | (dsimp only; omega)⟩ ?_
     intro q110 A111 c112 A116 c117 n120 hq113 hc118 hR119 hn121 hc114 hR115
     obtain rfl : n120 = ((v96.drop v91.toNat).take (v93.toNat - v91.toNat)).length := hn121.trans (len_vw (by first | omega | (dsimp only; omega) | (dsimp only at *; omega))).symm
     rw [es_vw] at hR115
     refine ⟨((v108.2.1, v108.2.2.1, v108.2.2.2.1, v108.2.2.2.2, ((v96.drop v91.toNat).take (v93.toNat - v91.toNat))), (A111, c112)), ⟨H, hR115, hc114⟩, ⟨fun _ _ _ h => (hq113 _ _ _ h)⟩, ?_⟩
     repeat refine mo1ZA ?_
     first | exact trivial | exact rfl
    ·refine if_st H (fun h122 H => ?_) (fun h122 H => ?_)
     ·obtain ⟨v123, hv124, H⟩ := call_st H
      refine ⟨((v101.2.1, v101.2.2.1, v101.2.2.2.1, v101.2.2.2.2 + (v93 - v91)), v7.2.2.2.1, v123), ⟨hv124⟩, ⟨trivial⟩, ?_⟩
      iterate 2 refine And.intro ⟨rfl⟩ ?_
      iterate 4 refine mo1ZA ?_
      refine And.intro ⟨by first | omega | (dsimp only; omega)⟩ ?_
      intro q125 A126 c127 A131 c132 n135 hq128 hc133 hR134 hn136 hc129 hR130
      obtain rfl : n135 = ((v96.drop v91.toNat).take (v93.toNat - v91.toNat)).length := hn136.trans (len_vw (by first | omega | (dsimp only; omega) | (dsimp only at *; omega))).symm
      rw [es_vw] at hR130
      refine ⟨((v123.2.1, v123.2.2.1, v123.2.2.2.1, v123.2.2.2.2, ((v96.drop v91.toNat).take (v93.toNat - v91.toNat))), (A126, c127)), ⟨H, hR130, hc129⟩, ⟨fun _ _ _ h => (hq128 _ _ _ h)⟩, ?_⟩
      repeat refine mo1ZA ?_
      first | exact trivial | exact rfl
     ·refine And.intro ⟨by first | omega | (dsimp only; omega)⟩ ?_
      intro q137 A138 c139 A143 c144 n147 hq140 hc145 hR146 hn148 hc141 hR142
      obtain rfl : n147 = ((v96.drop v91.toNat).take (v93.toNat - v91.toNat)).length := hn148.trans (len_vw (by first | omega | (dsimp only; omega) | (dsimp only at *; omega))).symm
      rw [es_vw] at hR142
      refine ⟨((v101.2.1, v101.2.2.1, v101.2.2.2.1, v101.2.2.2.2 + (v93 - v91), ((v96.drop v91.toNat).take (v93.toNat - v91.toNat))), (A138, c139)), ⟨H, hR142, hc141⟩, ⟨fun _ _ _ h => (hq140 _ _ _ h)⟩, ?_⟩
      repeat refine mo1ZA ?_
      first | exact trivial | exact rfl
 ·rintro q85 hq84 ⟨v86, ⟨A149, c150⟩⟩ ⟨H, hR151, hc152⟩
  dsimp only at H hR151 hc152
  refine if_st H (fun h153 H => ?_) (fun h153 H => ?_)
  ·refine if_st H (fun h154 H => ?_) (fun h154 H => ?_)
   ·refine if_st H (fun h155 H => ?_) (fun h155 H => ?_)
    ·refine if_st H (fun h156 H => ?_) (fun h156 H => ?_)
     ·refine if_st H (fun h157 H => ?_) (fun h157 H => ?_)
      ·refine if_st H (fun h158 H => ?_) (fun h158 H => ?_)
       ·refine ob_ix hR151 (fun h => es0 h) H fun h159 H => ?_
        refine ld_str (e := v86.2.2.2.2.getD (1 : Int).toNat default) (rd_get hR151 (es_get (l := v86.2.2.2.2) (tn h159))) ?_
        refine if_st H (fun h160 H => ?_) (fun h160 H => ?_)
        ·obtain ⟨v161, hv162, H⟩ := call_st H
         refine ⟨((v86.1, v86.2.1, v86.2.2.1, v86.2.2.2.1), v161), ⟨hv162⟩, ⟨trivial⟩, ?_⟩
         iterate 4 refine mo1ZA ?_
         refine if_st H (fun h163 H => ?_) (fun h163 H => ?_)
         ·obtain ⟨v164, hv165, H⟩ := call_st H
          refine ⟨((v86.1, v86.2.1, v86.2.2.1, v86.2.2.2.1), v164), ⟨hv165⟩, ⟨trivial⟩, ?_⟩
          iterate 4 refine mo1ZA ?_
          have hfin := fin_st H
          repeat refine mf1ZA ?_
          first | exact trivial | exact rfl
         ·have hfin := fin_st H
          repeat refine mf1ZA ?_
          first | exact trivial | exact rfl
        ·have hfin := fin_st H
         repeat refine mf1ZA ?_
         first | exact trivial | exact rfl
       ·have hfin := fin_st H
        repeat refine mf1ZA ?_
        first | exact trivial | exact rfl
      ·have hfin := fin_st H
       repeat refine mf1ZA ?_
       first | exact trivial | exact rfl
     ·have hfin := fin_st H
      repeat refine mf1ZA ?_
      first | exact trivial | exact rfl
    ·have hfin := fin_st H
     repeat refine mf1ZA ?_
     first | exact trivial | exact rfl
   ·have hfin := fin_st H
    repeat refine mf1ZA ?_
    first | exact trivial | exact rfl
  ·have hfin := fin_st H
   repeat refine mf1ZA ?_
   first | exact trivial | exact rfl
end Go.Proofs.YtenjkphlbdhaiaaGreat
end
section
namespace Go.Proofs.YtenjkphlbdhaiaaGreat
open Go Go.Eng
theorem mo1ZC2 {p q : Prop} (k : q) (h : p := by first | exact rfl | exact Iff.rfl | exact ⟨rfl, rfl⟩ | exact decide_eq_true_iff | (constructor <;> first | exact rfl | (simp only [ei, eb, es, ec, c133, gmin, gmax, List.map_append, List.flatMap_append, List.nil_append, List.append_nil, List.append_assoc]; done) | omega | (simp only [List.nil_append, List.length_append, List.length_cons, List.length_nil]; omega) | (simp [ei, eb, es, ec, c133, gmin, gmax]; done)) | exact rfl | (simp only [ei, eb, es, ec, c133, gmin, gmax, List.map_append, List.flatMap_append, List.nil_append, List.append_nil, List.append_assoc]; done) | omega | (simp only [List.nil_append, List.length_append, List.length_cons, List.length_nil]; omega) | (simp [ei, eb, es, ec, c133, gmin, gmax]; done) | simp [ei, eb, es, ec, c133, gmin, gmax]) : Ob p ∧ q := ⟨⟨h⟩, k⟩
theorem mf1ZC2 {p q : Prop} (k : q) (h : p := by first | (rw [← hfin] <;> first | exact rfl | exact Iff.rfl | exact ⟨rfl, rfl⟩ | exact decide_eq_true_iff | (constructor <;> first | exact rfl | (simp only [ei, eb, es, ec, c133, gmin, gmax, List.map_append, List.flatMap_append, List.nil_append, List.append_nil, List.append_assoc]; done) | omega | (simp only [List.nil_append, List.length_append, List.length_cons, List.length_nil]; omega) | (simp [ei, eb, es, ec, c133, gmin, gmax]; done)) | exact rfl | (simp only [ei, eb, es, ec, c133, gmin, gmax, List.map_append, List.flatMap_append, List.nil_append, List.append_nil, List.append_assoc]; done) | omega | (simp only [List.nil_append, List.length_append, List.length_cons, List.length_nil]; omega) | (simp [ei, eb, es, ec, c133, gmin, gmax]; done) | simp [ei, eb, es, ec, c133, gmin, gmax]) | first | exact rfl | exact Iff.rfl | exact ⟨rfl, rfl⟩ | exact decide_eq_true_iff | (constructor <;> first | exact rfl | (simp only [ei, eb, es, ec, c133, gmin, gmax, List.map_append, List.flatMap_append, List.nil_append, List.append_nil, List.append_assoc]; done) | omega | (simp only [List.nil_append, List.length_append, List.length_cons, List.length_nil]; omega) | (simp [ei, eb, es, ec, c133, gmin, gmax]; done)) | exact rfl | (simp only [ei, eb, es, ec, c133, gmin, gmax, List.map_append, List.flatMap_append, List.nil_append, List.append_nil, List.append_assoc]; done) | omega | (simp only [List.nil_append, List.length_append, List.length_cons, List.length_nil]; omega) | (simp [ei, eb, es, ec, c133, gmin, gmax]; done) | simp [ei, eb, es, ec, c133, gmin, gmax]) : Ob p ∧ q := ⟨⟨h⟩, k⟩
noncomputable def g60 (a0 : ByteArray) : Option (Int) :=
 jn (α := _) (β := Unit) (fun k56 =>
   ck (a0.size ≤ 140737488355328) <|
   (loopO (σ := Unit) (ρ := (Int) ⊕ (Unit)) (fun s68 =>
     if 0 < (((bytesOf a0).length : Nat) : Int) then
      (
       ck (0 ≤ (0 : Int) ∧ (0 : Int) ≤ (((bytesOf a0).length : Nat) : Int) ∧ (((bytesOf a0).length : Nat) : Int) ≤ (((bytesOf a0).length : Nat) : Int)) <|
       (g102 (((bytesOf a0).drop (0 : Int).toNat).take ((((bytesOf a0).length : Nat) : Int).toNat - (0 : Int).toNat))).bind fun v88 =>
       if v88.2.2 = true then
        (
         (g71 65533).bind fun v91 =>
         some (.out (.inl (v91)))
        )
       else
        (
         (g71 v88.1).bind fun v93 =>
         some (.out (.inl (v93)))
        )
      )
     else
      some (.out (.inr (())))
    ) ()).bind fun o82 =>
   sm o82 (fun o95 =>
     some o95
    ) (fun o96 =>
     k56 ()
    )
 ) (fun v55 =>
  some 0
 )
noncomputable def k60 : Eng.CS := { f := 60, calm := true, more := 0, ι := ByteArray × Int, ok := fun i => g60 i.1 = some i.2, rds := fun _ => [], args := fun i => [.w (.v (.string (i.1)))], res := fun i => .v (.int .i64 (i.2)) }
set_option maxRecDepth 8000 in
set_option maxHeartbeats 4000000 in
theorem k60_ok : CalmOk Tryz.prog k60 := by
 refine R.calmspec Tryz.func60 nm60 rfl ?_
 rintro ⟨a0, r⟩ hok q _ args hargs
 match args, hargs with
 | [_], hargs =>
 obtain ⟨rfl, _⟩ := hargs
 refine ⟨envC [k71, k102] false [(60, 4)], 6, envC_ok (css_cons ⟨fun _ => k71_ok, fun h => (by cases h)⟩ (css_cons ⟨fun _ => k102_ok, fun h => (by cases h)⟩ (css_nil))), rfl, (by intro x hx; simp only [List.mem_cons, List.not_mem_nil, or_false] at hx; rcases hx with rfl <;> rfl), ?_⟩
 have H : Gives (g60 a0) (fun a => a = r) := ⟨r, hok, rfl⟩
 unfold g60 at H
 clear hok
 refine R.cut_famG H 21 [2] [] [] (fun v55 => []) (fun v55 => []) [(0, .cells 3 [.v (.int .i64 (0))])] 0 (fun H => ?_)
 refine And.intro ?_ ?_
 ·refine ob_sb H fun h62 H q63 A57 c58 hq59 hc60 hR61 => ?_
  intro n64 hn65
  obtain rfl : n64 = (bytesOf a0).length := hn65.trans (bytesOf_len a0).symm
  refine R.loop_fam (bind_st H) [0, 1, 3] [] (fun _ s68 => []) (fun _ s68 => []) 0 (fun n97 H => ?_)
  refine ⟨(n97, _), ⟨H⟩, ⟨trivial⟩, ?_⟩
  repeat refine mo1ZC2 ?_
  rintro ⟨m0, s68⟩ H _
  obtain ⟨m69, hm0, H⟩ := IG_succ H
  dsimp only at hm0
  subst hm0
  try dsimp only at H
  refine if_st H (fun h83 H => ?_) (fun h83 H => ?_)
  ·refine ob_sl (Nat.le_trans (Nat.le_of_eq (bytesOf_len a0)) hc60) H fun h84 H => ?_
   have hs85 := sl_ei hR61 rfl (Nat.le_trans (Nat.le_of_eq (bytesOf_len a0)) hc60) h84
   intro n86 hn87
   obtain rfl : n86 = (((bytesOf a0).drop (0 : Int).toNat).take ((((bytesOf a0).length : Nat) : Int).toNat - (0 : Int).toNat)).length := hn87.trans hs85.2.1.symm
   obtain ⟨v88, hv89, H⟩ := call_st H
   refine ⟨((((bytesOf a0).drop (0 : Int).toNat).take ((((bytesOf a0).length : Nat) : Int).toNat - (0 : Int).toNat)), v88), ⟨hv89⟩, ⟨trivial⟩, ?_⟩
   refine And.intro ⟨rfl, (Nat.le_trans (Nat.le_of_eq hs85.2.1) hs85.2.2), ei_len.trans ((show _ = _ from rfl).trans (Nat.mul_one _).symm), hs85.1⟩ ?_
   refine if_st H (fun h90 H => ?_) (fun h90 H => ?_)
   ·obtain ⟨v91, hv92, H⟩ := call_st H
    refine ⟨(65533, v91), ⟨hv92⟩, ⟨trivial⟩, ?_⟩
    refine And.intro ⟨rfl⟩ ?_
    replace H := some_st H
    dsimp only [stp, sm] at H
    have hfin := fin_st H
    repeat refine mf1ZC2 ?_
    first | exact trivial | exact rfl
   ·obtain ⟨v93, hv94, H⟩ := call_st H
    refine ⟨(v88.1, v93), ⟨hv94⟩, ⟨trivial⟩, ?_⟩
    refine And.intro ⟨rfl⟩ ?_
    replace H := some_st H
    dsimp only [stp, sm] at H
    have hfin := fin_st H
    repeat refine mf1ZC2 ?_
    first | exact trivial | exact rfl
  ·replace H := some_st H
   dsimp only [stp, sm] at H
   refine ⟨(), ⟨H⟩, ⟨fun _ _ _ h => (hq59 _ _ _ h)⟩, ?_⟩
   repeat refine mo1ZC2 ?_
   first | exact trivial | exact rfl
 ·intro q54 hq53 v55 H
  have hfin := fin_st H
  repeat refine mf1ZC2 ?_
  first | exact trivial | exact rfl
noncomputable def g54 (a0 : ByteArray) : Option (Int) :=
 jn (α := _) (β := Unit) (fun k123 =>
   (g56 a0).bind fun v124 =>
   (loopO (σ := Unit) (ρ := (Int) ⊕ (Unit)) (fun s128 =>
     if 0 < ((v124.length : Nat) : Int) then
      (
       ck (0 ≤ (0 : Int) ∧ 0 < ((v124.length : Nat) : Int)) <|
       (g60 (v124.getD (0 : Int).toNat default)).bind fun v137 =>
       some (.out (.inl (v137)))
      )
     else
      some (.out (.inr (())))
    ) ()).bind fun o134 =>
   sm o134 (fun o139 =>
     some o139
    ) (fun o140 =>
     k123 ()
    )
 ) (fun v122 =>
  some 0
 )
noncomputable def k54 : Eng.CS := { f := 54, calm := true, more := 0, ι := ByteArray × Int, ok := fun i => g54 i.1 = some i.2, rds := fun _ => [], args := fun i => [.w (.v (.string (i.1)))], res := fun i => .v (.int .i64 (i.2)) }
set_option maxRecDepth 8000 in
set_option maxHeartbeats 4000000 in
theorem k54_ok : CalmOk Tryz.prog k54 := by
 refine R.calmspec Tryz.func54 nm54 rfl ?_
 rintro ⟨a0, r⟩ hok q _ args hargs
 match args, hargs with
 | [_], hargs =>
 obtain ⟨rfl, _⟩ := hargs
 refine ⟨envC [k56, k60] false [(54, 4)], 6, envC_ok (css_cons ⟨fun h => (by cases h), fun _ => k56_ok⟩ (css_cons ⟨fun _ => k60_ok, fun h => (by cases h)⟩ (css_nil))), rfl, (by intro x hx; simp only [List.mem_cons, List.not_mem_nil, or_false] at hx; rcases hx with rfl <;> rfl), ?_⟩
 have H : Gives (g54 a0) (fun a => a = r) := ⟨r, hok, rfl⟩
 unfold g54 at H
 clear hok
 refine R.cut_fam H 18 [2] [] (fun v122 => []) (fun v122 => []) [(0, .cells 3 [.v (.int .i64 (0))])] 0 (fun H => ?_)
 refine And.intro ?_ ?_
 ·obtain ⟨v124, hv125, H⟩ := call_st H
  refine ⟨(a0, v124), ⟨hv125⟩, ⟨trivial⟩, ?_⟩
  refine And.intro ⟨rfl⟩ ?_
  refine R.loop_fam (bind_st H) [0, 3, 7, 8, 9] [] (fun _ s128 => []) (fun _ s128 => []) 0 (fun n141 H => ?_)
  refine ⟨(n141, _), ⟨H⟩, ⟨trivial⟩, ?_⟩
  repeat refine mo1ZC2 ?_
  rintro ⟨m0, s128⟩ H _
  obtain ⟨m129, hm0, H⟩ := IG_succ H
  dsimp only at hm0
  subst hm0
  try dsimp only at H
  refine if_st H (fun h135 H => ?_) (fun h135 H => ?_)
  ·refine ob_ck H fun h136 H => ?_
   refine ld_str (e := v124.getD (0 : Int).toNat default) (own_get (ys := es v124) (by first | rfl | simp [ei, eb, es, ec, c133]) (es_get (l := v124) (by first | exact tn h136 | (have := tn h136; simp at this ⊢; omega) | (have := tn h136; simp; omega)))) ?_
   obtain ⟨v137, hv138, H⟩ := call_st H
   refine ⟨(v124.getD (0 : Int).toNat default, v137), ⟨hv138⟩, ⟨trivial⟩, ?_⟩
   refine And.intro ⟨rfl⟩ ?_
   replace H := some_st H
   dsimp only [stp, sm] at H
   have hfin := fin_st H
   repeat refine mf1ZC2 ?_
   first | exact trivial | exact rfl
  ·replace H := some_st H
   dsimp only [stp, sm] at H
   refine ⟨(), ⟨H⟩, ⟨rfl⟩, ?_⟩
   repeat refine mo1ZC2 ?_
   first | exact trivial | exact rfl
 ·intro v122 H
  have hfin := fin_st H
  repeat refine mf1ZC2 ?_
  first | exact trivial | exact rfl
noncomputable def g17 (a0 : List ByteArray) : Option (List ByteArray) :=
 jn (α := _) (β := List ByteArray) (fun k215 =>
   (loopO (σ := List ByteArray × Int) (ρ := List ByteArray) (fun s218 =>
     if s218.2 < ((a0.length : Nat) : Int) then
      (
       if s218.2 < 12 then
        (
         ck (0 ≤ s218.2 ∧ s218.2 < ((a0.length : Nat) : Int)) <|
         if 80 < ((a0.getD s218.2.toNat default).size : Int) then
          (
           ck (0 ≤ (0 : Int) ∧ (0 : Int) ≤ (80 : Int) ∧ (80 : Int) ≤ ((a0.getD s218.2.toNat default).size : Int)) <|
           ck ((s218.1.length + 1) * 16 ≤ 140737488355328) <|
           ck (inR .i64 (s218.2 + 1)) <|
           some (.go ((s218.1 ++ [(a0.getD s218.2.toNat default).extract (0 : Int).toNat (80 : Int).toNat]), s218.2 + 1))
          )
         else
          (
           ck ((s218.1.length + 1) * 16 ≤ 140737488355328) <|
           ck (inR .i64 (s218.2 + 1)) <|
           some (.go ((s218.1 ++ [a0.getD s218.2.toNat default]), s218.2 + 1))
          )
        )
       else
        some (.out s218.1)
      )
     else
      some (.out s218.1)
    ) ([], 0)).bind fun o253 =>
    k215 o253
 ) (fun v214 =>
  some v214
 )
noncomputable def k17 : Eng.CS := { f := 17, calm := false, more := 1, ι := (List ByteArray) × List ByteArray, ok := fun i => g17 i.1 = some i.2, rds := fun _ => [], args := fun i => [.sl 1 i.1.length (es i.1)], res := fun i => .own 0, L' := fun i => [(0, .arr 9 1 i.2.length (es i.2))], rn := [(0, 0, 9, 1)] }
set_option maxRecDepth 8000 in
set_option maxHeartbeats 4000000 in
theorem k17_ok : CSOk Tryz.prog k17 := by
 refine R.cspec Tryz.func17 nm17 rfl ?_
 rintro ⟨a0, r⟩ hok q _ args hargs
 match args, hargs with
 | [_], hargs =>
 obtain ⟨⟨A0, cp0, rfl, hc0, _, hR0⟩, _⟩ := hargs
 refine ⟨envC [] false [(17, 9)], 6, envC_ok (css_nil), ?_⟩
 have H : Gives (g17 a0) (fun a => a = r) := ⟨r, hok, rfl⟩
 unfold g17 at H
 clear hok
 refine R.cut_fam H 16 [] [] (fun v214 => [(3, .own 16)]) (fun v214 => [(16, .arr 9 1 (v214.length) (es (v214)))]) [] 1 (fun H => ?_)
 refine And.intro ?_ ?_
 ·refine R.loop_fam (bind_st H) [0] [(3, 0, 9, 1)] (fun _ s218 => [(3, .own 4), (4, .v (.int .i64 (s218.2)))]) (fun _ s218 => [(4, .arr 9 1 (s218.1.length) (es (s218.1)))]) 1 (fun n271 H => ?_)
  refine ⟨(n271, _), ⟨H⟩, ⟨trivial⟩, ?_⟩
  repeat refine mo1ZC2 ?_
  rintro ⟨m0, s218⟩ H _
  obtain ⟨m219, hm0, H⟩ := IG_succ H
  dsimp only at hm0
  subst hm0
  try dsimp only at H
  refine if_st H (fun h254 H => ?_) (fun h254 H => ?_)
  ·refine if_st H (fun h255 H => ?_) (fun h255 H => ?_)
   ·refine ob_ix hR0 (fun h => es0 h) H fun h256 H => ?_
    refine ld_str (e := a0.getD s218.2.toNat default) (rd_get hR0 (es_get (l := a0) (tn h256))) ?_
    refine if_st H (fun h257 H => ?_) (fun h257 H => ?_)
    ·refine ob_ck H fun h258 H => ?_
     refine ob_app (by decide) (by first | exact es_one | ((repeat (refine List.forall_mem_cons.2 ⟨rfl, ?_⟩)); intro y hy; cases hy; done) | (intro y hy; simp [ei, eb, es, ec, c133] at hy; (first | (rcases hy with rfl | hy) | subst hy | skip); all_goals first | rfl | simp_all [Value.oneCell'])) H fun h259 H => ?_
     intro n260 zs262 hn261 hz263
     obtain rfl : n260 = (s218.1 ++ [(a0.getD s218.2.toNat default).extract (0 : Int).toNat (80 : Int).toNat]).length := hn261.trans (by first | exact List.length_append.symm | (simp; done) | (simp; omega))
     obtain rfl : zs262 = es (s218.1 ++ [(a0.getD s218.2.toNat default).extract (0 : Int).toNat (80 : Int).toNat]) := by first | exact hz263.trans (es_app (xs := s218.1) (ys := ([(a0.getD s218.2.toNat default).extract (0 : Int).toNat (80 : Int).toNat]))).symm | (rw [hz263, es_vw]; first | exact es_app.symm | exact (es_app (xs := s218.1)).symm) | (rw [hz263]; simp [ei, eb, es, ec, c133])
     refine ob_ck H fun h264 H => ?_
     replace H := some_st H
     refine ⟨(m219, ((s218.1 ++ [(a0.getD s218.2.toNat default).extract (0 : Int).toNat (80 : Int).toNat]), s218.2 + 1)), ⟨H, Nat.lt_succ_self _⟩, ⟨trivial⟩, ⟨rfl⟩, ?_⟩
     repeat refine mo1ZC2 ?_
     first | exact trivial | exact rfl
    ·refine ob_app (by decide) (by first | exact es_one | ((repeat (refine List.forall_mem_cons.2 ⟨rfl, ?_⟩)); intro y hy; cases hy; done) | (intro y hy; simp [ei, eb, es, ec, c133] at hy; (first | (rcases hy with rfl | hy) | subst hy | skip); all_goals first | rfl | simp_all [Value.oneCell'])) H fun h265 H => ?_
     intro n266 zs268 hn267 hz269
     obtain rfl : n266 = (s218.1 ++ [a0.getD s218.2.toNat default]).length := hn267.trans (by first | exact List.length_append.symm | (simp; done) | (simp; omega))
     obtain rfl : zs268 = es (s218.1 ++ [a0.getD s218.2.toNat default]) := by first | exact hz269.trans (es_app (xs := s218.1) (ys := ([a0.getD s218.2.toNat default]))).symm | (rw [hz269, es_vw]; first | exact es_app.symm | exact (es_app (xs := s218.1)).symm) | (rw [hz269]; simp [ei, eb, es, ec, c133])
     refine ob_ck H fun h270 H => ?_
     replace H := some_st H
     refine ⟨(m219, ((s218.1 ++ [a0.getD s218.2.toNat default]), s218.2 + 1)), ⟨H, Nat.lt_succ_self _⟩, ⟨trivial⟩, ⟨rfl⟩, ?_⟩
     repeat refine mo1ZC2 ?_
     first | exact trivial | exact rfl
   ·replace H := some_st H
    dsimp only [stp, sm] at H
    refine ⟨s218.1, ⟨H⟩, ⟨rfl⟩, ?_⟩
    repeat refine mo1ZC2 ?_
    first | exact trivial | exact rfl
  ·replace H := some_st H
   dsimp only [stp, sm] at H
   refine ⟨s218.1, ⟨H⟩, ⟨rfl⟩, ?_⟩
   repeat refine mo1ZC2 ?_
   first | exact trivial | exact rfl
 ·intro v214 H
  have hfin := fin_st H
  repeat refine mf1ZC2 ?_
  first | exact trivial | exact rfl
end Go.Proofs.YtenjkphlbdhaiaaGreat
end
section
namespace Go.Proofs.YtenjkphlbdhaiaaGreat
open Go Go.Eng
theorem mo1ZG4 {p q : Prop} (k : q) (h : p := by first | exact rfl | exact Iff.rfl | exact ⟨rfl, rfl⟩ | exact decide_eq_true_iff | (constructor <;> first | exact rfl | (simp only [ei, eb, es, ec, c133, gmin, gmax, List.map_append, List.flatMap_append, List.nil_append, List.append_nil, List.append_assoc]; done) | omega | (simp only [List.nil_append, List.length_append, List.length_cons, List.length_nil]; omega) | (simp [ei, eb, es, ec, c133, gmin, gmax]; done)) | exact rfl | (simp only [ei, eb, es, ec, c133, gmin, gmax, List.map_append, List.flatMap_append, List.nil_append, List.append_nil, List.append_assoc]; done) | omega | (simp only [List.nil_append, List.length_append, List.length_cons, List.length_nil]; omega) | (simp [ei, eb, es, ec, c133, gmin, gmax]; done) | simp [ei, eb, es, ec, c133, gmin, gmax]) : Ob p ∧ q := ⟨⟨h⟩, k⟩
theorem mf1ZG4 {p q : Prop} (k : q) (h : p := by first | (rw [← hfin] <;> first | exact rfl | exact Iff.rfl | exact ⟨rfl, rfl⟩ | exact decide_eq_true_iff | (constructor <;> first | exact rfl | (simp only [ei, eb, es, ec, c133, gmin, gmax, List.map_append, List.flatMap_append, List.nil_append, List.append_nil, List.append_assoc]; done) | omega | (simp only [List.nil_append, List.length_append, List.length_cons, List.length_nil]; omega) | (simp [ei, eb, es, ec, c133, gmin, gmax]; done)) | exact rfl | (simp only [ei, eb, es, ec, c133, gmin, gmax, List.map_append, List.flatMap_append, List.nil_append, List.append_nil, List.append_assoc]; done) | omega | (simp only [List.nil_append, List.length_append, List.length_cons, List.length_nil]; omega) | (simp [ei, eb, es, ec, c133, gmin, gmax]; done) | simp [ei, eb, es, ec, c133, gmin, gmax]) | first | exact rfl | exact Iff.rfl | exact ⟨rfl, rfl⟩ | exact decide_eq_true_iff | (constructor <;> first | exact rfl | (simp only [ei, eb, es, ec, c133, gmin, gmax, List.map_append, List.flatMap_append, List.nil_append, List.append_nil, List.append_assoc]; done) | omega | (simp only [List.nil_append, List.length_append, List.length_cons, List.length_nil]; omega) | (simp [ei, eb, es, ec, c133, gmin, gmax]; done)) | exact rfl | (simp only [ei, eb, es, ec, c133, gmin, gmax, List.map_append, List.flatMap_append, List.nil_append, List.append_nil, List.append_assoc]; done) | omega | (simp only [List.nil_append, List.length_append, List.length_cons, List.length_nil]; omega) | (simp [ei, eb, es, ec, c133, gmin, gmax]; done) | simp [ei, eb, es, ec, c133, gmin, gmax]) : Ob p ∧ q := ⟨⟨h⟩, k⟩
noncomputable def g48 (a0 : (Int × List ByteArray × Int × Int)) (a1 : Int) : Option (Int) :=
 if a1 < a0.2.2.1 then
  some a1
 else
  (
   ck (inR .i64 (a1 + a0.2.2.2)) <|
   ck (inR .i64 ((a1 + a0.2.2.2) - a0.2.2.1)) <|
   some ((a1 + a0.2.2.2) - a0.2.2.1)
  )
noncomputable def k48 : Eng.CS := { f := 48, calm := true, more := 0, ι := (Int × List ByteArray × Int × Int) × Int × Int, ok := fun i => g48 i.1 i.2.1 = some i.2.2, rds := fun _ => [], args := fun i => [.pt [.w (.int .i64 i.1.1), .row 1 i.1.2.1.length (es i.1.2.1), .w (.int .i64 i.1.2.2.1), .w (.int .i64 i.1.2.2.2)], .w (.v (.int .i64 (i.2.1)))], res := fun i => .v (.int .i64 (i.2.2)) }
set_option maxRecDepth 8000 in
set_option maxHeartbeats 4000000 in
theorem k48_ok : CalmOk Tryz.prog k48 := by
 refine R.calmspec Tryz.func48 nm48 rfl ?_
 rintro ⟨a0, a1, r⟩ hok q _ args hargs
 dsimp only [k48] at hargs ⊢
 match args, hargs with
 | [_, _], hargs =>
 obtain ⟨⟨P0, us0, rfl, hs0, _, hR0, hpc0⟩, rfl, _⟩ := hargs
 match us0, hR0, hpc0 with
 | [_, _, _, _], hR0, hpc0 =>
 obtain ⟨rfl, ⟨A0_1, c0_1, rfl, hcr0_1, _, hRr0_1⟩, rfl, rfl, _⟩ := hpc0
 refine ⟨envC [] false [], 6, envC_ok (css_nil), rfl, (by intro x hx; simp only [List.mem_cons, List.not_mem_nil, or_false] at hx; rcases hx with rfl | rfl <;> rfl), ?_⟩
 have H : Gives (g48 a0 a1) (fun a => a = r) := ⟨r, hok, rfl⟩
 unfold g48 at H
 clear hok
 refine ob_nc ?_
 refine ld_int (e := a0.2.2.1) (rd_get hR0 rfl) ?_
 refine if_st H (fun h2 H => ?_) (fun h2 H => ?_)
 ·have hfin := fin_st H
  repeat refine mf1ZG4 ?_
  first | exact trivial | exact rfl
 ·refine And.intro ⟨by kernel_rfl⟩ ?_
  refine ob_nc ?_
  refine ld_int (e := a0.2.2.2) (rd_get hR0 rfl) ?_
  refine ob_ck H fun h3 H => ?_
  refine ob_nc ?_
  refine ld_int (e := a0.2.2.1) (rd_get hR0 rfl) ?_
  refine ob_ck H fun h4 H => ?_
  have hfin := fin_st H
  repeat refine mf1ZG4 ?_
  first | exact trivial | exact rfl
noncomputable def g51 (a0 : (Int × List ByteArray × Int × Int)) (a1 : Int) : Option (ByteArray) :=
 (g48 a0 a1).bind fun v5 =>
 ck (0 ≤ v5 ∧ v5 < ((a0.2.1.length : Nat) : Int)) <|
 some (a0.2.1.getD v5.toNat default)
noncomputable def k51 : Eng.CS := { f := 51, calm := true, more := 0, ι := (Int × List ByteArray × Int × Int) × Int × ByteArray, ok := fun i => g51 i.1 i.2.1 = some i.2.2, rds := fun _ => [], args := fun i => [.pt [.w (.int .i64 i.1.1), .row 1 i.1.2.1.length (es i.1.2.1), .w (.int .i64 i.1.2.2.1), .w (.int .i64 i.1.2.2.2)], .w (.v (.int .i64 (i.2.1)))], res := fun i => .v (.string (i.2.2)) }
set_option maxRecDepth 8000 in
set_option maxHeartbeats 4000000 in
theorem k51_ok : CalmOk Tryz.prog k51 := by
 refine R.calmspec Tryz.func51 nm51 rfl ?_
 rintro ⟨a0, a1, r⟩ hok q _ args hargs
 dsimp only [k51] at hargs ⊢
 match args, hargs with
 | [_, _], hargs =>
 obtain ⟨⟨P0, us0, rfl, hs0, _, hR0, hpc0⟩, rfl, _⟩ := hargs
 match us0, hR0, hpc0 with
 | [_, _, _, _], hR0, hpc0 =>
 obtain ⟨rfl, ⟨A0_1, c0_1, rfl, hcr0_1, _, hRr0_1⟩, rfl, rfl, _⟩ := hpc0
 refine ⟨envC [k48] false [], 6, envC_ok (css_cons ⟨fun _ => k48_ok, fun h => (by cases h)⟩ (css_nil)), rfl, (by intro x hx; simp only [List.mem_cons, List.not_mem_nil, or_false] at hx; rcases hx with rfl | rfl <;> rfl), ?_⟩
 have H : Gives (g51 a0 a1) (fun a => a = r) := ⟨r, hok, rfl⟩
 unfold g51 at H
 clear hok
 refine And.intro ⟨by kernel_rfl⟩ ?_
 refine ob_nc ?_
 refine ld_sl (A := A0_1) (n := a0.2.1.length) (c := c0_1) (rd_get hR0 rfl) ?_
 obtain ⟨v5, hv6, H⟩ := call_st H
 refine ⟨(a0, a1, v5), ⟨hv6⟩, ⟨trivial⟩, ?_⟩
 refine And.intro ⟨hs0, _, rfl, hR0, rfl, ⟨_, _, rfl, hcr0_1, es_len.trans (Nat.mul_one _).symm, hRr0_1⟩, rfl, rfl, trivial⟩ ?_
 refine And.intro ⟨rfl⟩ ?_
 refine ob_ix hRr0_1 (fun h => es0 h) H fun h7 H => ?_
 refine ld_str (e := a0.2.1.getD v5.toNat default) (rd_get hRr0_1 (es_get (l := a0.2.1) (tn h7))) ?_
 have hfin := fin_st H
 repeat refine mf1ZG4 ?_
 first | exact trivial | exact rfl
noncomputable def g26 (a0 : (Int × List ByteArray × Int × Int)) (a1 : Int) : Option (ByteArray × Bool) :=
 (g39 a0).bind fun v21 =>
 if ¬ (v21 = true) then
  some ((lit []), false)
 else
  (
   if a1 < 0 then
    some ((lit []), false)
   else
    (
     (g41 a0).bind fun v25 =>
     if v25 ≤ a1 then
      some ((lit []), false)
     else
      (
       (g51 a0 a1).bind fun v28 =>
       some (v28, true)
      )
    )
  )
noncomputable def k26 : Eng.CS := { f := 26, calm := true, more := 0, ι := (Int × List ByteArray × Int × Int) × Int × (ByteArray × Bool), ok := fun i => g26 i.1 i.2.1 = some i.2.2, rds := fun _ => [], args := fun i => [.pt [.w (.int .i64 i.1.1), .row 1 i.1.2.1.length (es i.1.2.1), .w (.int .i64 i.1.2.2.1), .w (.int .i64 i.1.2.2.2)], .w (.v (.int .i64 (i.2.1)))], res := fun i => .tup [.v (.string (i.2.2.1)), bS i.2.2.2] }
set_option maxRecDepth 8000 in
set_option maxHeartbeats 4000000 in
theorem k26_ok : CalmOk Tryz.prog k26 := by
 refine R.calmspec Tryz.func26 nm26 rfl ?_
 rintro ⟨a0, a1, r⟩ hok q _ args hargs
 dsimp only [k26] at hargs ⊢
 match args, hargs with
 | [_, _], hargs =>
 obtain ⟨⟨P0, us0, rfl, hs0, _, hR0, hpc0⟩, rfl, _⟩ := hargs
 match us0, hR0, hpc0 with
 | [_, _, _, _], hR0, hpc0 =>
 obtain ⟨rfl, ⟨A0_1, c0_1, rfl, hcr0_1, _, hRr0_1⟩, rfl, rfl, _⟩ := hpc0
 refine ⟨envC [k39, k41, k51] false [], 6, envC_ok (css_cons ⟨fun _ => k39_ok, fun h => (by cases h)⟩ (css_cons ⟨fun _ => k41_ok, fun h => (by cases h)⟩ (css_cons ⟨fun _ => k51_ok, fun h => (by cases h)⟩ (css_nil)))), rfl, (by intro x hx; simp only [List.mem_cons, List.not_mem_nil, or_false] at hx; rcases hx with rfl | rfl <;> rfl), ?_⟩
 have H : Gives (g26 a0 a1) (fun a => a = r) := ⟨r, hok, rfl⟩
 unfold g26 at H
 clear hok
 obtain ⟨v21, hv22, H⟩ := call_st H
 refine ⟨(a0, v21), ⟨hv22⟩, ⟨trivial⟩, ?_⟩
 refine And.intro ⟨hs0, _, rfl, hR0, rfl, ⟨_, _, rfl, hcr0_1, es_len.trans (Nat.mul_one _).symm, hRr0_1⟩, rfl, rfl, trivial⟩ ?_
 refine if_st H (fun h23 H => ?_) (fun h23 H => ?_)
 ·have hfin := fin_st H
  repeat refine mf1ZG4 ?_
  first | exact trivial | exact rfl
 ·refine if_st H (fun h24 H => ?_) (fun h24 H => ?_)
  ·have hfin := fin_st H
   repeat refine mf1ZG4 ?_
   first | exact trivial | exact rfl
  ·obtain ⟨v25, hv26, H⟩ := call_st H
   refine ⟨(a0, v25), ⟨hv26⟩, ⟨trivial⟩, ?_⟩
   refine And.intro ⟨hs0, _, rfl, hR0, rfl, ⟨_, _, rfl, hcr0_1, es_len.trans (Nat.mul_one _).symm, hRr0_1⟩, rfl, rfl, trivial⟩ ?_
   refine if_st H (fun h27 H => ?_) (fun h27 H => ?_)
   ·have hfin := fin_st H
    repeat refine mf1ZG4 ?_
    first | exact trivial | exact rfl
   ·obtain ⟨v28, hv29, H⟩ := call_st H
    refine ⟨(a0, a1, v28), ⟨hv29⟩, ⟨trivial⟩, ?_⟩
    refine And.intro ⟨hs0, _, rfl, hR0, rfl, ⟨_, _, rfl, hcr0_1, es_len.trans (Nat.mul_one _).symm, hRr0_1⟩, rfl, rfl, trivial⟩ ?_
    refine And.intro ⟨rfl⟩ ?_
    have hfin := fin_st H
    repeat refine mf1ZG4 ?_
    first | exact trivial | exact rfl
noncomputable def g50 (a0 : (Int × List ByteArray × Int × Int)) (a1 : Int) (a2 : List ByteArray) : Option (Bool) :=
 (g41 a0).bind fun v34 =>
 ck (inR .i64 (v34 - a1)) <|
 if (v34 - a1) < ((a2.length : Nat) : Int) then
  some false
 else
  (
   jn (α := _) (β := Unit) (fun k74 =>
     (loopO (σ := Int) (ρ := (Unit) ⊕ (Unit)) (fun s77 =>
       if s77 < ((a2.length : Nat) : Int) then
        (
         ck (0 ≤ s77 ∧ s77 < ((a2.length : Nat) : Int)) <|
         ck (inR .i64 (a1 + s77)) <|
         (g51 a0 (a1 + s77)).bind fun v97 =>
         if ¬ (v97.data.toList = (a2.getD s77.toNat default).data.toList) then
          some (.out (.inl (())))
         else
          (
           ck (inR .i64 (s77 + 1)) <|
           some (.go (s77 + 1))
          )
        )
       else
        some (.out (.inr (())))
      ) 0).bind fun o93 =>
     sm o93 (fun o101 =>
       some false
      ) (fun o102 =>
       k74 ()
      )
   ) (fun v73 =>
    some true
   )
  )
noncomputable def k50 : Eng.CS := { f := 50, calm := true, more := 0, ι := (Int × List ByteArray × Int × Int) × Int × (List ByteArray) × Bool, ok := fun i => g50 i.1 i.2.1 i.2.2.1 = some i.2.2.2, rds := fun _ => [], args := fun i => [.pt [.w (.int .i64 i.1.1), .row 1 i.1.2.1.length (es i.1.2.1), .w (.int .i64 i.1.2.2.1), .w (.int .i64 i.1.2.2.2)], .w (.v (.int .i64 (i.2.1))), .sl 1 i.2.2.1.length (es i.2.2.1)], res := fun i => bS i.2.2.2 }
set_option maxRecDepth 8000 in
set_option maxHeartbeats 4000000 in
theorem k50_ok : CalmOk Tryz.prog k50 := by
 refine R.calmspec Tryz.func50 nm50 rfl ?_
 rintro ⟨a0, a1, a2, r⟩ hok q _ args hargs
 dsimp only [k50] at hargs ⊢
 match args, hargs with
 | [_, _, _], hargs =>
 obtain ⟨⟨P0, us0, rfl, hs0, _, hR0, hpc0⟩, rfl, ⟨A2, cp2, rfl, hc2, _, hR2⟩, _⟩ := hargs
 match us0, hR0, hpc0 with
 | [_, _, _, _], hR0, hpc0 =>
 obtain ⟨rfl, ⟨A0_1, c0_1, rfl, hcr0_1, _, hRr0_1⟩, rfl, rfl, _⟩ := hpc0
 refine ⟨envC [k41, k51] false [(50, 9)], 6, envC_ok (css_cons ⟨fun _ => k41_ok, fun h => (by cases h)⟩ (css_cons ⟨fun _ => k51_ok, fun h => (by cases h)⟩ (css_nil))), rfl, (by intro x hx; simp only [List.mem_cons, List.not_mem_nil, or_false] at hx; rcases hx with rfl | rfl | rfl <;> rfl), ?_⟩
 have H : Gives (g50 a0 a1 a2) (fun a => a = r) := ⟨r, hok, rfl⟩
 unfold g50 at H
 clear hok
 obtain ⟨v34, hv35, H⟩ := call_st H
 refine ⟨(a0, v34), ⟨hv35⟩, ⟨trivial⟩, ?_⟩
 refine And.intro ⟨hs0, _, rfl, hR0, rfl, ⟨_, _, rfl, hcr0_1, es_len.trans (Nat.mul_one _).symm, hRr0_1⟩, rfl, rfl, trivial⟩ ?_
 refine ob_ck H fun h36 H => ?_
 refine if_st H (fun h37 H => ?_) (fun h37 H => ?_)
 ·have hfin := fin_st H
  repeat refine mf1ZG4 ?_
  first | exact trivial | exact rfl
 ·refine R.cut_fam H 14 [] [] (fun v73 => []) (fun v73 => []) [] 0 (fun H => ?_)
  refine And.intro ?_ ?_
  ·refine R.loop_fam (bind_st H) [0, 1, 16, 17] [] (fun _ s77 => [(18, .v (.int .i64 (s77)))]) (fun _ s77 => []) 0 (fun n103 H => ?_)
   refine ⟨(n103, _), ⟨H⟩, ⟨trivial⟩, ?_⟩
   repeat refine mo1ZG4 ?_
   rintro ⟨m0, s77⟩ H _
   obtain ⟨m78, hm0, H⟩ := IG_succ H
   dsimp only at hm0
   subst hm0
   try dsimp only at H
   refine if_st H (fun h94 H => ?_) (fun h94 H => ?_)
   ·refine ob_ix hR2 (fun h => es0 h) H fun h95 H => ?_
    refine ld_str (e := a2.getD s77.toNat default) (rd_get hR2 (es_get (l := a2) (tn h95))) ?_
    refine ob_ck H fun h96 H => ?_
    obtain ⟨v97, hv98, H⟩ := call_st H
    refine ⟨(a0, a1 + s77, v97), ⟨hv98⟩, ⟨trivial⟩, ?_⟩
    refine And.intro ⟨hs0, _, rfl, hR0, rfl, ⟨_, _, rfl, hcr0_1, es_len.trans (Nat.mul_one _).symm, hRr0_1⟩, rfl, rfl, trivial⟩ ?_
    refine And.intro ⟨rfl⟩ ?_
    refine if_st H (fun h99 H => ?_) (fun h99 H => ?_)
    ·replace H := some_st H
     dsimp only [stp, sm] at H
     have hfin := fin_st H
     repeat refine mf1ZG4 ?_
     first | exact trivial | exact rfl
    ·refine ob_ck H fun h100 H => ?_
     replace H := some_st H
     refine ⟨(m78, s77 + 1), ⟨H, Nat.lt_succ_self _⟩, ⟨trivial⟩, ⟨rfl⟩, ?_⟩
     repeat refine mo1ZG4 ?_
     first | exact trivial | exact rfl
   ·replace H := some_st H
    dsimp only [stp, sm] at H
    refine ⟨(), ⟨H⟩, ⟨rfl⟩, ?_⟩
    repeat refine mo1ZG4 ?_
    first | exact trivial | exact rfl
  ·intro v73 H
   have hfin := fin_st H
   repeat refine mf1ZG4 ?_
   first | exact trivial | exact rfl
noncomputable def g23 (a0 : (Int × List ByteArray × Int × Int)) (a1 : List ByteArray) : Option (Int × Bool) :=
 (g39 a0).bind fun v111 =>
 if ¬ (v111 = true) then
  some (0, false)
 else
  (
   if ((a1.length : Nat) : Int) = 0 then
    some (0, false)
   else
    (
     jn (α := _) (β := Unit) (fun k159 =>
       (g34 a0).bind fun v160 =>
       (loopO (σ := Int) (ρ := (Int) ⊕ (Unit)) (fun s164 =>
         if s164 < ((v160.length : Nat) : Int) then
          (
           ck (0 ≤ s164 ∧ s164 < ((v160.length : Nat) : Int)) <|
           if a0.2.2.1 ≤ s164 then
            (
             (g50 a0 s164 a1).bind fun v186 =>
             if v186 = true then
              some (.out (.inl (s164)))
             else
              (
               ck (inR .i64 (s164 + 1)) <|
               some (.go (s164 + 1))
              )
            )
           else
            (
             ck (inR .i64 (s164 + 1)) <|
             some (.go (s164 + 1))
            )
          )
         else
          some (.out (.inr (())))
        ) 0).bind fun o182 =>
       sm o182 (fun o191 =>
         some (o191, true)
        ) (fun o192 =>
         k159 ()
        )
     ) (fun v158 =>
      some (0, false)
     )
    )
  )
noncomputable def k23 : Eng.CS := { f := 23, calm := true, more := 0, ι := (Int × List ByteArray × Int × Int) × (List ByteArray) × (Int × Bool), ok := fun i => g23 i.1 i.2.1 = some i.2.2, rds := fun _ => [], args := fun i => [.pt [.w (.int .i64 i.1.1), .row 1 i.1.2.1.length (es i.1.2.1), .w (.int .i64 i.1.2.2.1), .w (.int .i64 i.1.2.2.2)], .sl 1 i.2.1.length (es i.2.1)], res := fun i => .tup [.v (.int .i64 (i.2.2.1)), bS i.2.2.2] }
set_option maxRecDepth 8000 in
set_option maxHeartbeats 4000000 in
theorem k23_ok : CalmOk Tryz.prog k23 := by
 refine R.calmspec Tryz.func23 nm23 rfl ?_
 rintro ⟨a0, a1, r⟩ hok q _ args hargs
 dsimp only [k23] at hargs ⊢
 match args, hargs with
 | [_, _], hargs =>
 obtain ⟨⟨P0, us0, rfl, hs0, _, hR0, hpc0⟩, ⟨A1, cp1, rfl, hc1, _, hR1⟩, _⟩ := hargs
 match us0, hR0, hpc0 with
 | [_, _, _, _], hR0, hpc0 =>
 obtain ⟨rfl, ⟨A0_1, c0_1, rfl, hcr0_1, _, hRr0_1⟩, rfl, rfl, _⟩ := hpc0
 refine ⟨envC [k34, k39, k50] false [(23, 7)], 6, envC_ok (css_cons ⟨fun h => (by cases h), fun _ => k34_ok⟩ (css_cons ⟨fun _ => k39_ok, fun h => (by cases h)⟩ (css_cons ⟨fun _ => k50_ok, fun h => (by cases h)⟩ (css_nil)))), rfl, (by intro x hx; simp only [List.mem_cons, List.not_mem_nil, or_false] at hx; rcases hx with rfl | rfl <;> rfl), ?_⟩
 have H : Gives (g23 a0 a1) (fun a => a = r) := ⟨r, hok, rfl⟩
 unfold g23 at H
 clear hok
 obtain ⟨v111, hv112, H⟩ := call_st H
 refine ⟨(a0, v111), ⟨hv112⟩, ⟨trivial⟩, ?_⟩
 refine And.intro ⟨hs0, _, rfl, hR0, rfl, ⟨_, _, rfl, hcr0_1, es_len.trans (Nat.mul_one _).symm, hRr0_1⟩, rfl, rfl, trivial⟩ ?_
 refine if_st H (fun h113 H => ?_) (fun h113 H => ?_)
 ·have hfin := fin_st H
  repeat refine mf1ZG4 ?_
  first | exact trivial | exact rfl
 ·refine if_st H (fun h114 H => ?_) (fun h114 H => ?_)
  ·have hfin := fin_st H
   repeat refine mf1ZG4 ?_
   first | exact trivial | exact rfl
  ·refine R.cut_fam H 28 [4, 5] [] (fun v158 => []) (fun v158 => []) [(0, .cells 23 [.v (.pointer (some P0))]), (1, .cells 27 [.v (.slice (A1) (a1.length) (cp1))]), (2, .cells 3 [.v (.int .i64 (0))]), (3, .cells 4 [.bb false])] 0 (fun H => ?_)
   refine And.intro ?_ ?_
   ·obtain ⟨v160, hv161, H⟩ := call_st H
    refine ⟨(a0, v160), ⟨hv161⟩, ⟨trivial⟩, ?_⟩
    refine And.intro ⟨hs0, _, rfl, hR0, rfl, ⟨_, _, rfl, hcr0_1, es_len.trans (Nat.mul_one _).symm, hRr0_1⟩, rfl, rfl, trivial⟩ ?_
    refine R.loop_fam (bind_st H) [0, 6, 7] [] (fun _ s164 => [(8, .v (.int .i64 (s164)))]) (fun _ s164 => []) 0 (fun n193 H => ?_)
    refine ⟨(n193, _), ⟨H⟩, ⟨trivial⟩, ?_⟩
    repeat refine mo1ZG4 ?_
    rintro ⟨m0, s164⟩ H _
    obtain ⟨m165, hm0, H⟩ := IG_succ H
    dsimp only at hm0
    subst hm0
    try dsimp only at H
    refine if_st H (fun h183 H => ?_) (fun h183 H => ?_)
    ·refine ob_ck H fun h184 H => ?_
     refine ld_str (e := v160.getD s164.toNat default) (own_get (ys := es v160) (by first | rfl | simp [ei, eb, es, ec, c133]) (es_get (l := v160) (by first | exact tn h184 | (have := tn h184; simp at this ⊢; omega) | (have := tn h184; simp; omega)))) ?_
     refine ob_nc ?_
     refine ld_int (e := a0.2.2.1) (rd_get hR0 rfl) ?_
     refine if_st H (fun h185 H => ?_) (fun h185 H => ?_)
     ·obtain ⟨v186, hv187, H⟩ := call_st H
      refine ⟨(a0, s164, a1, v186), ⟨hv187⟩, ⟨trivial⟩, ?_⟩
      refine And.intro ⟨hs0, _, rfl, hR0, rfl, ⟨_, _, rfl, hcr0_1, es_len.trans (Nat.mul_one _).symm, hRr0_1⟩, rfl, rfl, trivial⟩ ?_
      refine And.intro ⟨rfl⟩ ?_
      refine And.intro ⟨rfl, hc1, es_len.trans ((show _ = _ from rfl).trans (Nat.mul_one _).symm), hR1⟩ ?_
      refine if_st H (fun h188 H => ?_) (fun h188 H => ?_)
      ·replace H := some_st H
       dsimp only [stp, sm] at H
       have hfin := fin_st H
       repeat refine mf1ZG4 ?_
       first | exact trivial | exact rfl
      ·refine ob_ck H fun h189 H => ?_
       replace H := some_st H
       refine ⟨(m165, s164 + 1), ⟨H, Nat.lt_succ_self _⟩, ⟨trivial⟩, ⟨rfl⟩, ?_⟩
       repeat refine mo1ZG4 ?_
       first | exact trivial | exact rfl
     ·refine ob_ck H fun h190 H => ?_
      replace H := some_st H
      refine ⟨(m165, s164 + 1), ⟨H, Nat.lt_succ_self _⟩, ⟨trivial⟩, ⟨rfl⟩, ?_⟩
      repeat refine mo1ZG4 ?_
      first | exact trivial | exact rfl
    ·replace H := some_st H
     dsimp only [stp, sm] at H
     refine ⟨(), ⟨H⟩, ⟨rfl⟩, ?_⟩
     repeat refine mo1ZG4 ?_
     first | exact trivial | exact rfl
   ·intro v158 H
    have hfin := fin_st H
    repeat refine mf1ZG4 ?_
    first | exact trivial | exact rfl
noncomputable def g36 (a0 : (Int × List ByteArray × Int × Int)) : Option (List Int) :=
 jn (α := _) (β := List Int) (fun k242 =>
   (g34 a0).bind fun v243 =>
   (loopO (σ := List Int × Int) (ρ := List Int) (fun s247 =>
     if s247.2 < ((v243.length : Nat) : Int) then
      (
       ck (0 ≤ s247.2 ∧ s247.2 < ((v243.length : Nat) : Int)) <|
       (g54 (v243.getD s247.2.toNat default)).bind fun v272 =>
       ck ((s247.1.length + 1) * 8 ≤ 140737488355328) <|
       ck (inR .i64 (s247.2 + 1)) <|
       some (.go ((s247.1 ++ [v272]), s247.2 + 1))
      )
     else
      some (.out s247.1)
    ) ([], 0)).bind fun o269 =>
    k242 o269
 ) (fun v241 =>
  some v241
 )
noncomputable def k36 : Eng.CS := { f := 36, calm := false, more := 1, ι := (Int × List ByteArray × Int × Int) × List Int, ok := fun i => g36 i.1 = some i.2, rds := fun _ => [], args := fun i => [.pt [.w (.int .i64 i.1.1), .row 1 i.1.2.1.length (es i.1.2.1), .w (.int .i64 i.1.2.2.1), .w (.int .i64 i.1.2.2.2)]], res := fun i => .own 0, L' := fun i => [(0, .arr 3 1 i.2.length (ei .i64 i.2))], rn := [(0, 0, 3, 1)] }
set_option maxRecDepth 8000 in
set_option maxHeartbeats 4000000 in
theorem k36_ok : CSOk Tryz.prog k36 := by
 refine R.cspec Tryz.func36 nm36 rfl ?_
 rintro ⟨a0, r⟩ hok q _ args hargs
 dsimp only [k36] at hargs ⊢
 match args, hargs with
 | [_], hargs =>
 obtain ⟨⟨P0, us0, rfl, hs0, _, hR0, hpc0⟩, _⟩ := hargs
 match us0, hR0, hpc0 with
 | [_, _, _, _], hR0, hpc0 =>
 obtain ⟨rfl, ⟨A0_1, c0_1, rfl, hcr0_1, _, hRr0_1⟩, rfl, rfl, _⟩ := hpc0
 refine ⟨envC [k34, k54] false [(36, 5)], 6, envC_ok (css_cons ⟨fun h => (by cases h), fun _ => k34_ok⟩ (css_cons ⟨fun _ => k54_ok, fun h => (by cases h)⟩ (css_nil))), ?_⟩
 have H : Gives (g36 a0) (fun a => a = r) := ⟨r, hok, rfl⟩
 unfold g36 at H
 clear hok
 refine R.cut_fam H 21 [3] [] (fun v241 => []) (fun v241 => [(1, .cells 63 [.own 21]), (21, .arr 3 1 (v241.length) (ei .i64 (v241)))]) [] 1 (fun H => ?_)
 refine And.intro ?_ ?_
 ·obtain ⟨v243, hv244, H⟩ := call_st H
  refine ⟨(a0, v243), ⟨hv244⟩, ⟨trivial⟩, ?_⟩
  refine And.intro ⟨hs0, _, rfl, hR0, rfl, ⟨_, _, rfl, hcr0_1, es_len.trans (Nat.mul_one _).symm, hRr0_1⟩, rfl, rfl, trivial⟩ ?_
  refine R.loop_fam (bind_st H) [0, 6, 7] [(100001, 0, 3, 1)] (fun _ s247 => [(8, .v (.int .i64 (s247.2)))]) (fun _ s247 => [(1, .cells 63 [.own 16]), (16, .arr 3 1 (s247.1.length) (ei .i64 (s247.1)))]) 1 (fun n280 H => ?_)
  refine ⟨(n280, _), ⟨H⟩, ⟨trivial⟩, ?_⟩
  repeat refine mo1ZG4 ?_
  rintro ⟨m0, s247⟩ H _
  obtain ⟨m248, hm0, H⟩ := IG_succ H
  dsimp only at hm0
  subst hm0
  try dsimp only at H
  refine if_st H (fun h270 H => ?_) (fun h270 H => ?_)
  ·refine ob_ck H fun h271 H => ?_
   refine ld_str (e := v243.getD s247.2.toNat default) (own_get (ys := es v243) (by first | rfl | simp [ei, eb, es, ec, c133]) (es_get (l := v243) (by first | exact tn h271 | (have := tn h271; simp at this ⊢; omega) | (have := tn h271; simp; omega)))) ?_
   refine And.intro ⟨by kernel_rfl⟩ ?_
   refine ⟨(Pn.calm 0 (Pn.calm 1 (Pn.calm 2 (Pn.eff 3 [2, 1] (Pn.eff 4 [0, 3, 2, 1] (Pn.eff 5 [4, 0, 1, 2, 3] Pn.done Pn.no) Pn.no) Pn.no)))), ⟨by kernel_rfl⟩, ?_⟩
   obtain ⟨v272, hv273, H⟩ := call_st H
   refine ⟨(v243.getD s247.2.toNat default, v272), ⟨hv273⟩, ⟨trivial⟩, ?_⟩
   refine And.intro ⟨rfl⟩ ?_
   refine And.intro ?_ trivial
   refine And.intro ⟨fun _ _ _ h => h⟩ ?_
   refine And.intro ?_ trivial
   refine ob_app (by decide) (by first | exact ei_one | ((repeat (refine List.forall_mem_cons.2 ⟨rfl, ?_⟩)); intro y hy; cases hy; done) | (intro y hy; simp [ei, eb, es, ec, c133] at hy; (first | (rcases hy with rfl | hy) | subst hy | skip); all_goals first | rfl | simp_all [Value.oneCell'])) H fun h274 H => ?_
   intro n275 zs277 hn276 hz278
   obtain rfl : n275 = (s247.1 ++ [v272]).length := hn276.trans (by first | exact List.length_append.symm | (simp; done) | (simp; omega))
   obtain rfl : zs277 = ei .i64 (s247.1 ++ [v272]) := by first | exact hz278.trans (ei_app (xs := s247.1) (ys := ([v272]))).symm | (rw [hz278, ei_vw]; first | exact ei_app.symm | exact (ei_app (xs := s247.1)).symm) | (rw [hz278]; simp [ei, eb, es, ec, c133])
   refine And.intro ⟨fun _ _ _ h => h⟩ ?_
   refine And.intro ?_ trivial
   refine And.intro ⟨fun _ _ _ h => h⟩ ?_
   refine ob_ck H fun h279 H => ?_
   replace H := some_st H
   refine ⟨(m248, ((s247.1 ++ [v272]), s247.2 + 1)), ⟨H, Nat.lt_succ_self _⟩, ⟨trivial⟩, ⟨rfl⟩, ?_⟩
   repeat refine mo1ZG4 ?_
   first | exact trivial | exact rfl
  ·replace H := some_st H
   dsimp only [stp, sm] at H
   refine ⟨s247.1, ⟨H⟩, ⟨rfl⟩, ?_⟩
   repeat refine mo1ZG4 ?_
   first | exact trivial | exact rfl
 ·intro v241 H
  have hfin := fin_st H
  repeat refine mf1ZG4 ?_
  first | exact trivial | exact rfl
end Go.Proofs.YtenjkphlbdhaiaaGreat
end
section
namespace Go.Proofs.YtenjkphlbdhaiaaGreat
open Go Go.Eng
theorem mo1ZR1 {p q : Prop} (k : q) (h : p := by first | exact rfl | exact Iff.rfl | exact ⟨rfl, rfl⟩ | exact decide_eq_true_iff | (constructor <;> first | exact rfl | (simp only [ei, eb, es, ec, c133, gmin, gmax, List.map_append, List.flatMap_append, List.nil_append, List.append_nil, List.append_assoc]; done) | omega | (simp only [List.nil_append, List.length_append, List.length_cons, List.length_nil]; omega) | (simp [ei, eb, es, ec, c133, gmin, gmax]; done)) | exact rfl | (simp only [ei, eb, es, ec, c133, gmin, gmax, List.map_append, List.flatMap_append, List.nil_append, List.append_nil, List.append_assoc]; done) | omega | (simp only [List.nil_append, List.length_append, List.length_cons, List.length_nil]; omega) | (simp [ei, eb, es, ec, c133, gmin, gmax]; done) | simp [ei, eb, es, ec, c133, gmin, gmax]) : Ob p ∧ q := ⟨⟨h⟩, k⟩
theorem mf1ZR1 {p q : Prop} (k : q) (h : p := by first | (rw [← hfin] <;> first | exact rfl | exact Iff.rfl | exact ⟨rfl, rfl⟩ | exact decide_eq_true_iff | (constructor <;> first | exact rfl | (simp only [ei, eb, es, ec, c133, gmin, gmax, List.map_append, List.flatMap_append, List.nil_append, List.append_nil, List.append_assoc]; done) | omega | (simp only [List.nil_append, List.length_append, List.length_cons, List.length_nil]; omega) | (simp [ei, eb, es, ec, c133, gmin, gmax]; done)) | exact rfl | (simp only [ei, eb, es, ec, c133, gmin, gmax, List.map_append, List.flatMap_append, List.nil_append, List.append_nil, List.append_assoc]; done) | omega | (simp only [List.nil_append, List.length_append, List.length_cons, List.length_nil]; omega) | (simp [ei, eb, es, ec, c133, gmin, gmax]; done) | simp [ei, eb, es, ec, c133, gmin, gmax]) | first | exact rfl | exact Iff.rfl | exact ⟨rfl, rfl⟩ | exact decide_eq_true_iff | (constructor <;> first | exact rfl | (simp only [ei, eb, es, ec, c133, gmin, gmax, List.map_append, List.flatMap_append, List.nil_append, List.append_nil, List.append_assoc]; done) | omega | (simp only [List.nil_append, List.length_append, List.length_cons, List.length_nil]; omega) | (simp [ei, eb, es, ec, c133, gmin, gmax]; done)) | exact rfl | (simp only [ei, eb, es, ec, c133, gmin, gmax, List.map_append, List.flatMap_append, List.nil_append, List.append_nil, List.append_assoc]; done) | omega | (simp only [List.nil_append, List.length_append, List.length_cons, List.length_nil]; omega) | (simp [ei, eb, es, ec, c133, gmin, gmax]; done) | simp [ei, eb, es, ec, c133, gmin, gmax]) : Ob p ∧ q := ⟨⟨h⟩, k⟩
noncomputable def g49 (a0 : ByteArray) : Option (Bool) :=
 (g58 a0).bind fun v1 =>
 if ((v1.length : Nat) : Int) = 1 then
  (
   ck (0 ≤ (0 : Int) ∧ 0 < ((v1.length : Nat) : Int)) <|
   some (decide ((v1.getD (0 : Int).toNat default).data.toList = a0.data.toList))
  )
 else
  some false
noncomputable def k49 : Eng.CS := { f := 49, calm := true, more := 0, ι := ByteArray × Bool, ok := fun i => g49 i.1 = some i.2, rds := fun _ => [], args := fun i => [.w (.v (.string (i.1)))], res := fun i => bS i.2 }
set_option maxRecDepth 8000 in
set_option maxHeartbeats 4000000 in
theorem k49_ok : CalmOk Tryz.prog k49 := by
 refine R.calmspec Tryz.func49 nm49 rfl ?_
 rintro ⟨a0, r⟩ hok q _ args hargs
 match args, hargs with
 | [_], hargs =>
 obtain ⟨rfl, _⟩ := hargs
 refine ⟨envC [k58] false [], 6, envC_ok (css_cons ⟨fun h => (by cases h), fun _ => k58_ok⟩ (css_nil)), rfl, (by intro x hx; simp only [List.mem_cons, List.not_mem_nil, or_false] at hx; rcases hx with rfl <;> rfl), ?_⟩
 have H : Gives (g49 a0) (fun a => a = r) := ⟨r, hok, rfl⟩
 unfold g49 at H
 clear hok
 obtain ⟨v1, hv2, H⟩ := call_st H
 refine ⟨(a0, v1), ⟨hv2⟩, ⟨trivial⟩, ?_⟩
 refine And.intro ⟨rfl⟩ ?_
 refine if_st H (fun h3 H => ?_) (fun h3 H => ?_)
 ·refine ob_ck H fun h4 H => ?_
  refine ld_str (e := v1.getD (0 : Int).toNat default) (own_get (ys := es v1) (by first | rfl | simp [ei, eb, es, ec, c133]) (es_get (l := v1) (by first | exact tn h4 | (have := tn h4; simp at this ⊢; omega) | (have := tn h4; simp; omega)))) ?_
  have hfin := fin_st H
  repeat refine mf1ZR1 ?_
  first | exact trivial | exact rfl
 ·have hfin := fin_st H
  repeat refine mf1ZR1 ?_
  first | exact trivial | exact rfl
noncomputable def g55 (a0 : ByteArray) : Option (Int) :=
 (g58 a0).bind fun v5 =>
 if ((v5.length : Nat) : Int) = 0 then
  some 0
 else
  (
   ck (0 ≤ (0 : Int) ∧ 0 < ((v5.length : Nat) : Int)) <|
   ck ((v5.getD (0 : Int).toNat default).size ≤ 140737488355328) <|
   (g61 (bytesOf (v5.getD (0 : Int).toNat default))).bind fun v19 =>
   ck (0 ≤ (0 : Int) ∧ 0 < ((v19.1.length : Nat) : Int)) <|
   (g62 (v19.1.getD (0 : Int).toNat 0)).bind fun v22 =>
   some v22
  )
noncomputable def k55 : Eng.CS := { f := 55, calm := true, more := 0, ι := ByteArray × Int, ok := fun i => g55 i.1 = some i.2, rds := fun _ => [], args := fun i => [.w (.v (.string (i.1)))], res := fun i => .v (.int .i64 (i.2)) }
set_option maxRecDepth 8000 in
set_option maxHeartbeats 4000000 in
theorem k55_ok : CalmOk Tryz.prog k55 := by
 refine R.calmspec Tryz.func55 nm55 rfl ?_
 rintro ⟨a0, r⟩ hok q _ args hargs
 match args, hargs with
 | [_], hargs =>
 obtain ⟨rfl, _⟩ := hargs
 refine ⟨envC [k58, k61, k62] false [], 6, envC_ok (css_cons ⟨fun h => (by cases h), fun _ => k58_ok⟩ (css_cons ⟨fun h => (by cases h), fun _ => k61_ok⟩ (css_cons ⟨fun _ => k62_ok, fun h => (by cases h)⟩ (css_nil)))), rfl, (by intro x hx; simp only [List.mem_cons, List.not_mem_nil, or_false] at hx; rcases hx with rfl <;> rfl), ?_⟩
 have H : Gives (g55 a0) (fun a => a = r) := ⟨r, hok, rfl⟩
 unfold g55 at H
 clear hok
 obtain ⟨v5, hv6, H⟩ := call_st H
 refine ⟨(a0, v5), ⟨hv6⟩, ⟨trivial⟩, ?_⟩
 refine And.intro ⟨rfl⟩ ?_
 refine if_st H (fun h8 H => ?_) (fun h8 H => ?_)
 ·have hfin := fin_st H
  repeat refine mf1ZR1 ?_
  first | exact trivial | exact rfl
 ·refine ob_ck H fun h9 H => ?_
  refine ld_str (e := v5.getD (0 : Int).toNat default) (own_get (ys := es v5) (by first | rfl | simp [ei, eb, es, ec, c133]) (es_get (l := v5) (by first | exact tn h9 | (have := tn h9; simp at this ⊢; omega) | (have := tn h9; simp; omega)))) ?_
  refine ob_sb H fun h15 H q16 A10 c11 hq12 hc13 hR14 => ?_
  intro n17 hn18
  obtain rfl : n17 = (bytesOf (v5.getD (0 : Int).toNat default)).length := hn18.trans (bytesOf_len (v5.getD (0 : Int).toNat default)).symm
  obtain ⟨v19, hv20, H⟩ := call_st H
  refine ⟨(bytesOf (v5.getD (0 : Int).toNat default), v19), ⟨hv20⟩, ⟨trivial⟩, ?_⟩
  refine And.intro ⟨rfl, (Nat.le_trans (Nat.le_of_eq (bytesOf_len (v5.getD (0 : Int).toNat default))) hc13), ei_len.trans ((show _ = _ from rfl).trans (Nat.mul_one _).symm), hR14⟩ ?_
  refine ob_ck H fun h21 H => ?_
  refine ld_int (e := v19.1.getD (0 : Int).toNat 0) (own_get (ys := ei .i32 v19.1) (by first | rfl | simp [ei, eb, es, ec, c133]) (ei_get (l := v19.1) (by first | exact tn h21 | (have := tn h21; simp at this ⊢; omega) | (have := tn h21; simp; omega)))) ?_
  obtain ⟨v22, hv23, H⟩ := call_st H
  refine ⟨(v19.1.getD (0 : Int).toNat 0, v22), ⟨hv23⟩, ⟨trivial⟩, ?_⟩
  refine And.intro ⟨rfl⟩ ?_
  have hfin := fin_st H
  repeat refine mf1ZR1 ?_
  first | exact trivial | exact rfl
noncomputable def g32 (a0 : List Int) (a1 : List Int) : Option (Bool) :=
 if ¬ ((a0.length : Nat) : Int) = ((a1.length : Nat) : Int) then
  some false
 else
  (
   jn (α := _) (β := Unit) (fun k54 =>
     (loopO (σ := Int) (ρ := (Unit) ⊕ (Unit)) (fun s57 =>
       if s57 < ((a0.length : Nat) : Int) then
        (
         ck (0 ≤ s57 ∧ s57 < ((a0.length : Nat) : Int)) <|
         ck (0 ≤ s57 ∧ s57 < ((a1.length : Nat) : Int)) <|
         if ¬ (a0.getD s57.toNat 0) = (a1.getD s57.toNat 0) then
          some (.out (.inl (())))
         else
          (
           ck (inR .i64 (s57 + 1)) <|
           some (.go (s57 + 1))
          )
        )
       else
        some (.out (.inr (())))
      ) 0).bind fun o69 =>
     sm o69 (fun o75 =>
       some false
      ) (fun o76 =>
       k54 ()
      )
   ) (fun v53 =>
    some true
   )
  )
noncomputable def k32 : Eng.CS := { f := 32, calm := true, more := 0, ι := (List Int) × (List Int) × Bool, ok := fun i => g32 i.1 i.2.1 = some i.2.2, rds := fun _ => [], args := fun i => [.sl 1 i.1.length (ei .i64 i.1), .sl 1 i.2.1.length (ei .i64 i.2.1)], res := fun i => bS i.2.2 }
set_option maxRecDepth 8000 in
set_option maxHeartbeats 4000000 in
theorem k32_ok : CalmOk Tryz.prog k32 := by
 refine R.calmspec Tryz.func32 nm32 rfl ?_
 rintro ⟨a0, a1, r⟩ hok q _ args hargs
 match args, hargs with
 | [_, _], hargs =>
 obtain ⟨⟨A0, cp0, rfl, hc0, _, hR0⟩, ⟨A1, cp1, rfl, hc1, _, hR1⟩, _⟩ := hargs
 refine ⟨envC [] false [(32, 8)], 6, envC_ok (css_nil), rfl, (by intro x hx; simp only [List.mem_cons, List.not_mem_nil, or_false] at hx; rcases hx with rfl | rfl <;> rfl), ?_⟩
 have H : Gives (g32 a0 a1) (fun a => a = r) := ⟨r, hok, rfl⟩
 unfold g32 at H
 clear hok
 refine if_st H (fun h25 H => ?_) (fun h25 H => ?_)
 ·have hfin := fin_st H
  repeat refine mf1ZR1 ?_
  first | exact trivial | exact rfl
 ·refine R.cut_fam H 13 [] [] (fun v53 => []) (fun v53 => []) [] 0 (fun H => ?_)
  refine And.intro ?_ ?_
  ·refine R.loop_fam (bind_st H) [0, 1] [] (fun _ s57 => [(5, .v (.int .i64 (s57)))]) (fun _ s57 => []) 0 (fun n77 H => ?_)
   refine ⟨(n77, _), ⟨H⟩, ⟨trivial⟩, ?_⟩
   repeat refine mo1ZR1 ?_
   rintro ⟨m0, s57⟩ H _
   obtain ⟨m58, hm0, H⟩ := IG_succ H
   dsimp only at hm0
   subst hm0
   try dsimp only at H
   refine if_st H (fun h70 H => ?_) (fun h70 H => ?_)
   ·refine And.intro ⟨by kernel_rfl⟩ ?_
    refine ob_ix hR0 (fun h => ei0 h) H fun h71 H => ?_
    refine ld_int (e := a0.getD s57.toNat 0) (rd_get hR0 (ei_get (l := a0) (tn h71))) ?_
    refine ob_ix hR1 (fun h => ei0 h) H fun h72 H => ?_
    refine ld_int (e := a1.getD s57.toNat 0) (rd_get hR1 (ei_get (l := a1) (tn h72))) ?_
    refine if_st H (fun h73 H => ?_) (fun h73 H => ?_)
    ·replace H := some_st H
     dsimp only [stp, sm] at H
     have hfin := fin_st H
     repeat refine mf1ZR1 ?_
     first | exact trivial | exact rfl
    ·refine ob_ck H fun h74 H => ?_
     replace H := some_st H
     refine ⟨(m58, s57 + 1), ⟨H, Nat.lt_succ_self _⟩, ⟨trivial⟩, ⟨rfl⟩, ?_⟩
     repeat refine mo1ZR1 ?_
     first | exact trivial | exact rfl
   ·replace H := some_st H
    dsimp only [stp, sm] at H
    refine ⟨(), ⟨H⟩, ⟨rfl⟩, ?_⟩
    repeat refine mo1ZR1 ?_
    first | exact trivial | exact rfl
  ·intro v53 H
   have hfin := fin_st H
   repeat refine mf1ZR1 ?_
   first | exact trivial | exact rfl
noncomputable def g33 (a0 : Int) : Option (List Int) :=
 jn (α := _) (β := List Int) (fun k112 =>
   (loopO (σ := List Int × Int) (ρ := List Int) (fun s115 =>
     if s115.2 < a0 then
      (
       ck ((s115.1.length + 1) * 8 ≤ 140737488355328) <|
       ck (inR .i64 (s115.2 + 1)) <|
       some (.go ((s115.1 ++ [s115.2]), s115.2 + 1))
      )
     else
      some (.out s115.1)
    ) ([], 0)).bind fun o131 =>
    k112 o131
 ) (fun v111 =>
  some v111
 )
noncomputable def k33 : Eng.CS := { f := 33, calm := false, more := 1, ι := Int × List Int, ok := fun i => g33 i.1 = some i.2, rds := fun _ => [], args := fun i => [.w (.v (.int .i64 (i.1)))], res := fun i => .own 0, L' := fun i => [(0, .arr 3 1 i.2.length (ei .i64 i.2))], rn := [(0, 0, 3, 1)] }
set_option maxRecDepth 8000 in
set_option maxHeartbeats 4000000 in
theorem k33_ok : CSOk Tryz.prog k33 := by
 refine R.cspec Tryz.func33 nm33 rfl ?_
 rintro ⟨a0, r⟩ hok q _ args hargs
 match args, hargs with
 | [_], hargs =>
 obtain ⟨rfl, _⟩ := hargs
 refine ⟨envC [] false [(33, 6)], 6, envC_ok (css_nil), ?_⟩
 have H : Gives (g33 a0) (fun a => a = r) := ⟨r, hok, rfl⟩
 unfold g33 at H
 clear hok
 refine R.cut_fam H 11 [] [] (fun v111 => [(3, .own 11)]) (fun v111 => [(11, .arr 3 1 (v111.length) (ei .i64 (v111)))]) [] 1 (fun H => ?_)
 refine And.intro ?_ ?_
 ·refine R.loop_fam (bind_st H) [0] [(3, 0, 3, 1)] (fun _ s115 => [(3, .own 4), (4, .v (.int .i64 (s115.2)))]) (fun _ s115 => [(4, .arr 3 1 (s115.1.length) (ei .i64 (s115.1)))]) 1 (fun n139 H => ?_)
  refine ⟨(n139, _), ⟨H⟩, ⟨trivial⟩, ?_⟩
  repeat refine mo1ZR1 ?_
  rintro ⟨m0, s115⟩ H _
  obtain ⟨m116, hm0, H⟩ := IG_succ H
  dsimp only at hm0
  subst hm0
  try dsimp only at H
  refine if_st H (fun h132 H => ?_) (fun h132 H => ?_)
  ·refine ob_app (by decide) (by first | exact ei_one | ((repeat (refine List.forall_mem_cons.2 ⟨rfl, ?_⟩)); intro y hy; cases hy; done) | (intro y hy; simp [ei, eb, es, ec, c133] at hy; (first | (rcases hy with rfl | hy) | subst hy | skip); all_goals first | rfl | simp_all [Value.oneCell'])) H fun h133 H => ?_
   intro n134 zs136 hn135 hz137
   obtain rfl : n134 = (s115.1 ++ [s115.2]).length := hn135.trans (by first | exact List.length_append.symm | (simp; done) | (simp; omega))
   obtain rfl : zs136 = ei .i64 (s115.1 ++ [s115.2]) := by first | exact hz137.trans (ei_app (xs := s115.1) (ys := ([s115.2]))).symm | (rw [hz137, ei_vw]; first | exact ei_app.symm | exact (ei_app (xs := s115.1)).symm) | (rw [hz137]; simp [ei, eb, es, ec, c133])
   refine ob_ck H fun h138 H => ?_
   replace H := some_st H
   refine ⟨(m116, ((s115.1 ++ [s115.2]), s115.2 + 1)), ⟨H, Nat.lt_succ_self _⟩, ⟨trivial⟩, ⟨rfl⟩, ?_⟩
   repeat refine mo1ZR1 ?_
   first | exact trivial | exact rfl
  ·replace H := some_st H
   dsimp only [stp, sm] at H
   refine ⟨s115.1, ⟨H⟩, ⟨rfl⟩, ?_⟩
   repeat refine mo1ZR1 ?_
   first | exact trivial | exact rfl
 ·intro v111 H
  have hfin := fin_st H
  repeat refine mf1ZR1 ?_
  first | exact trivial | exact rfl
noncomputable def g47 (a0 : List ByteArray) (a1 : Int) (a2 : Int) (a3 : List ByteArray) : Option (List ByteArray) :=
 ck (0 ≤ (0 : Int) ∧ (0 : Int) ≤ a1 ∧ a1 ≤ ((a0.length : Nat) : Int)) <|
 ck ((0 + (((a0.drop (0 : Int).toNat).take (a1.toNat - (0 : Int).toNat)).length)) * 16 ≤ 140737488355328) <|
 ck (((([] : List ByteArray) ++ ((a0.drop (0 : Int).toNat).take (a1.toNat - (0 : Int).toNat))).length + a3.length) * 16 ≤ 140737488355328) <|
 ck (0 ≤ a2 ∧ a2 ≤ ((a0.length : Nat) : Int) ∧ ((a0.length : Nat) : Int) ≤ ((a0.length : Nat) : Int)) <|
 ck ((((([] : List ByteArray) ++ ((a0.drop (0 : Int).toNat).take (a1.toNat - (0 : Int).toNat))) ++ a3).length + (((a0.drop a2.toNat).take (((a0.length : Nat) : Int).toNat - a2.toNat)).length)) * 16 ≤ 140737488355328) <|
 some (((([] : List ByteArray) ++ ((a0.drop (0 : Int).toNat).take (a1.toNat - (0 : Int).toNat))) ++ a3) ++ ((a0.drop a2.toNat).take (((a0.length : Nat) : Int).toNat - a2.toNat)))
noncomputable def k47 : Eng.CS := { f := 47, calm := false, more := 1, ι := (List ByteArray) × Int × Int × (List ByteArray) × List ByteArray, ok := fun i => g47 i.1 i.2.1 i.2.2.1 i.2.2.2.1 = some i.2.2.2.2, rds := fun _ => [], args := fun i => [.sl 1 i.1.length (es i.1), .w (.v (.int .i64 (i.2.1))), .w (.v (.int .i64 (i.2.2.1))), .sl 1 i.2.2.2.1.length (es i.2.2.2.1)], res := fun i => .own 0, L' := fun i => [(0, .arr 9 1 i.2.2.2.2.length (es i.2.2.2.2))], rn := [(0, 0, 9, 1)] }
set_option maxRecDepth 8000 in
set_option maxHeartbeats 4000000 in
theorem k47_ok : CSOk Tryz.prog k47 := by
 refine R.cspec Tryz.func47 nm47 rfl ?_
 rintro ⟨a0, a1, a2, a3, r⟩ hok q _ args hargs
 match args, hargs with
 | [_, _, _, _], hargs =>
 obtain ⟨⟨A0, cp0, rfl, hc0, _, hR0⟩, rfl, rfl, ⟨A3, cp3, rfl, hc3, _, hR3⟩, _⟩ := hargs
 refine ⟨envC [] false [], 6, envC_ok (css_nil), ?_⟩
 have H : Gives (g47 a0 a1 a2 a3) (fun a => a = r) := ⟨r, hok, rfl⟩
 unfold g47 at H
 clear hok
 refine ob_sl hc0 H fun h140 H => ?_
 have hs141 := sl_es hR0 rfl hc0 h140
 intro n142 hn143
 obtain rfl : n142 = ((a0.drop (0 : Int).toNat).take (a1.toNat - (0 : Int).toNat)).length := hn143.trans hs141.2.1.symm
 refine rs_st hs141.1 (es_len.trans (Nat.mul_one _).symm) ?_
 refine ob_app (by decide) (by first | exact es_one | ((repeat (refine List.forall_mem_cons.2 ⟨rfl, ?_⟩)); intro y hy; cases hy; done) | (intro y hy; simp [ei, eb, es, ec, c133] at hy; (first | (rcases hy with rfl | hy) | subst hy | skip); all_goals first | rfl | simp_all [Value.oneCell'])) H fun h144 H => ?_
 intro n145 zs147 hn146 hz148
 obtain rfl : n145 = (([] : List ByteArray) ++ ((a0.drop (0 : Int).toNat).take (a1.toNat - (0 : Int).toNat))).length := hn146.trans (by first | exact List.length_append.symm | (simp; done) | (simp; omega))
 obtain rfl : zs147 = es (([] : List ByteArray) ++ ((a0.drop (0 : Int).toNat).take (a1.toNat - (0 : Int).toNat))) := by first | exact hz148.trans (es_app (xs := ([] : List ByteArray)) (ys := ((a0.drop (0 : Int).toNat).take (a1.toNat - (0 : Int).toNat)))).symm | (rw [hz148, es_vw]; first | exact es_app.symm | exact (es_app (xs := ([] : List ByteArray))).symm) | (rw [hz148]; simp [ei, eb, es, ec, c133])
 refine rs_st hR3 (es_len.trans (Nat.mul_one _).symm) ?_
 refine ob_app (by decide) (by first | exact es_one | ((repeat (refine List.forall_mem_cons.2 ⟨rfl, ?_⟩)); intro y hy; cases hy; done) | (intro y hy; simp [ei, eb, es, ec, c133] at hy; (first | (rcases hy with rfl | hy) | subst hy | skip); all_goals first | rfl | simp_all [Value.oneCell'])) H fun h149 H => ?_
 intro n150 zs152 hn151 hz153
 obtain rfl : n150 = ((([] : List ByteArray) ++ ((a0.drop (0 : Int).toNat).take (a1.toNat - (0 : Int).toNat))) ++ a3).length := hn151.trans (by first | exact List.length_append.symm | (simp; done) | (simp; omega))
 obtain rfl : zs152 = es ((([] : List ByteArray) ++ ((a0.drop (0 : Int).toNat).take (a1.toNat - (0 : Int).toNat))) ++ a3) := by first | exact hz153.trans (es_app (xs := (([] : List ByteArray) ++ ((a0.drop (0 : Int).toNat).take (a1.toNat - (0 : Int).toNat)))) (ys := a3)).symm | (rw [hz153, es_vw]; first | exact es_app.symm | exact (es_app (xs := (([] : List ByteArray) ++ ((a0.drop (0 : Int).toNat).take (a1.toNat - (0 : Int).toNat))))).symm) | (rw [hz153]; simp [ei, eb, es, ec, c133])
 refine ob_sl hc0 H fun h154 H => ?_
 have hs155 := sl_es hR0 rfl hc0 h154
 intro n156 hn157
 obtain rfl : n156 = ((a0.drop a2.toNat).take (((a0.length : Nat) : Int).toNat - a2.toNat)).length := hn157.trans hs155.2.1.symm
 refine rs_st hs155.1 (es_len.trans (Nat.mul_one _).symm) ?_
 refine ob_app (by decide) (by first | exact es_one | ((repeat (refine List.forall_mem_cons.2 ⟨rfl, ?_⟩)); intro y hy; cases hy; done) | (intro y hy; simp [ei, eb, es, ec, c133] at hy; (first | (rcases hy with rfl | hy) | subst hy | skip); all_goals first | rfl | simp_all [Value.oneCell'])) H fun h158 H => ?_
 intro n159 zs161 hn160 hz162
 obtain rfl : n159 = (((([] : List ByteArray) ++ ((a0.drop (0 : Int).toNat).take (a1.toNat - (0 : Int).toNat))) ++ a3) ++ ((a0.drop a2.toNat).take (((a0.length : Nat) : Int).toNat - a2.toNat))).length := hn160.trans (by first | exact List.length_append.symm | (simp; done) | (simp; omega))
 obtain rfl : zs161 = es (((([] : List ByteArray) ++ ((a0.drop (0 : Int).toNat).take (a1.toNat - (0 : Int).toNat))) ++ a3) ++ ((a0.drop a2.toNat).take (((a0.length : Nat) : Int).toNat - a2.toNat))) := by first | exact hz162.trans (es_app (xs := ((([] : List ByteArray) ++ ((a0.drop (0 : Int).toNat).take (a1.toNat - (0 : Int).toNat))) ++ a3)) (ys := ((a0.drop a2.toNat).take (((a0.length : Nat) : Int).toNat - a2.toNat)))).symm | (rw [hz162, es_vw]; first | exact es_app.symm | exact (es_app (xs := ((([] : List ByteArray) ++ ((a0.drop (0 : Int).toNat).take (a1.toNat - (0 : Int).toNat))) ++ a3))).symm) | (rw [hz162]; simp [ei, eb, es, ec, c133])
 have hfin := fin_st H
 repeat refine mf1ZR1 ?_
 first | exact trivial | exact rfl
noncomputable def g46 (a0 : (List ByteArray × Int × Int)) (a1 : Int) : Option (Int) :=
 some (gmax 0 (gmin a1 ((a0.1.length : Nat) : Int)))
noncomputable def k46 : Eng.CS := { f := 46, calm := false, more := 0, ι := (List ByteArray × Int × Int) × Int × Int × ((Option Addr × Nat)), ok := fun i => g46 i.1 i.2.1 = some i.2.2.1 ∧ i.1.1.length ≤ i.2.2.2.2, rds := fun i => [(i.2.2.2.1, es i.1.1)], args := fun i => [.w (.agg [.v (.slice i.2.2.2.1 i.1.1.length i.2.2.2.2), .v (.int .i64 (i.1.2.1)), .v (.int .i64 (i.1.2.2))]), .w (.v (.int .i64 (i.2.1)))], res := fun _ => .bad, rn := [], gr := true, γ := Unit, resG := fun i _ => .v (.int .i64 (i.2.2.1)), LG := fun i _ => [], okG := fun i _ => True, rdsG := fun i _ => [], fzr := [] }
set_option maxRecDepth 8000 in
set_option maxHeartbeats 4000000 in
theorem k46_ok : CSOk Tryz.prog k46 := by
 refine R.cspecG Tryz.func46 nm46 rfl rfl (fun _ => rfl) ?_
 rintro ⟨a0, a1, r, ⟨A0_0, cp0_0⟩⟩ ⟨hok, hc0_0⟩ q hrds args hargs
 obtain ⟨hR0_0, _⟩ := hrds
 dsimp only at hR0_0 hc0_0
 dsimp only [k46] at hargs ⊢
 match args, hargs with
 | [_, _], hargs =>
 obtain ⟨rfl, rfl, _⟩ := hargs
 refine ⟨envC [] false [], 6, envC_ok (css_nil), ?_⟩
 have H : Gives (g46 a0 a1) (fun a => a = r) := ⟨r, hok, rfl⟩
 unfold g46 at H
 clear hok
 have hfin := fin_st H
 first | subst hfin | (replace hfin := hfin.symm; subst hfin)
 refine ⟨(), ⟨trivial⟩, ⟨trivial⟩, ?_⟩
 repeat refine mo1ZR1 ?_
 first | exact trivial | exact rfl
noncomputable def g25 (a0 : (List ByteArray × Int × Int)) (a1 : List ByteArray) : Option ((List ByteArray × Int × Int) × Int) :=
 jn (α := _) (β := Unit) (fun k195 =>
   (loopO (σ := Int) (ρ := (Unit) ⊕ (Unit)) (fun s198 =>
     if s198 < ((a1.length : Nat) : Int) then
      (
       ck (0 ≤ s198 ∧ s198 < ((a1.length : Nat) : Int)) <|
       (g49 (a1.getD s198.toNat default)).bind fun v215 =>
       if ¬ (v215 = true) then
        some (.out (.inl (())))
       else
        (
         ck (inR .i64 (s198 + 1)) <|
         some (.go (s198 + 1))
        )
      )
     else
      some (.out (.inr (())))
    ) 0).bind fun o212 =>
   sm o212 (fun o219 =>
     some ((a0.1, a0.2.1, a0.2.2), 1)
    ) (fun o220 =>
     k195 ()
    )
 ) (fun v194 =>
  ck (inR .i64 (a0.2.2 - ((a0.1.length : Nat) : Int))) <|
  if (a0.2.2 - ((a0.1.length : Nat) : Int)) < ((a1.length : Nat) : Int) then
   some ((a0.1, a0.2.1, a0.2.2), 3)
  else
   (
    (g47 a0.1 a0.2.1 a0.2.1 a1).bind fun v226 =>
    ck (inR .i64 (a0.2.1 + ((a1.length : Nat) : Int))) <|
    some ((v226, a0.2.1 + ((a1.length : Nat) : Int), a0.2.2), 0)
   )
 )
noncomputable def k25 : Eng.CS := { f := 25, calm := false, more := 0, ι := (List ByteArray × Int × Int) × (List ByteArray) × ((List ByteArray × Int × Int) × Int) × ((Option Addr × Nat) × (Option Addr × Nat)), ok := fun i => g25 i.1 i.2.1 = some i.2.2.1 ∧ i.1.1.length ≤ i.2.2.2.1.2 ∧ i.2.1.length ≤ i.2.2.2.2.2, rds := fun i => [(i.2.2.2.1.1, es i.1.1), (i.2.2.2.2.1, es i.2.1)], args := fun i => [.w (.agg [.v (.slice i.2.2.2.1.1 i.1.1.length i.2.2.2.1.2), .v (.int .i64 (i.1.2.1)), .v (.int .i64 (i.1.2.2))]), .w (.v (.slice i.2.2.2.2.1 i.2.1.length i.2.2.2.2.2))], res := fun _ => .bad, rn := [], gr := true, γ := (Option Addr × Nat), resG := fun i g => .tup [.agg [.v (.slice g.1 i.2.2.1.1.1.length g.2), .v (.int .i64 (i.2.2.1.1.2.1)), .v (.int .i64 (i.2.2.1.1.2.2))], .v (.int .i64 (i.2.2.1.2))], LG := fun i _ => [], okG := fun i g => i.2.2.1.1.1.length ≤ g.2, rdsG := fun i g => [(g.1, es i.2.2.1.1.1)], fzr := [(0, 0)] }
set_option maxRecDepth 8000 in
set_option maxHeartbeats 4000000 in
theorem k25_ok : CSOk Tryz.prog k25 := by
 refine R.cspecG Tryz.func25 nm25 rfl rfl (fun _ => rfl) ?_
 rintro ⟨a0, a1, r, ⟨⟨A0_0, cp0_0⟩, ⟨A1_0, cp1_0⟩⟩⟩ ⟨hok, hc0_0, hc1_0⟩ q hrds args hargs
 obtain ⟨hR0_0, hR1_0, _⟩ := hrds
 dsimp only at hR0_0 hc0_0 hR1_0 hc1_0
 dsimp only [k25] at hargs ⊢
 match args, hargs with
 | [_, _], hargs =>
 obtain ⟨rfl, rfl, _⟩ := hargs
 refine ⟨envC [k47, k49] false [(25, 6)], 6, envC_ok (css_cons ⟨fun h => (by cases h), fun _ => k47_ok⟩ (css_cons ⟨fun _ => k49_ok, fun h => (by cases h)⟩ (css_nil))), ?_⟩
 have H : Gives (g25 a0 a1) (fun a => a = r) := ⟨r, hok, rfl⟩
 unfold g25 at H
 clear hok
 refine R.cut_fam H 10 [1, 2, 4] [] (fun v194 => []) (fun v194 => []) [(0, .cells 29 [.v (.slice (A0_0) (a0.1.length) (cp0_0)), .v (.int .i64 (a0.2.1)), .v (.int .i64 (a0.2.2))]), (1, .cells 29 [.v (.slice none 0 0), .v (.int .i64 (0)), .v (.int .i64 (0))])] 0 (fun H => ?_)
 refine And.intro ?_ ?_
 ·refine R.loop_fam (bind_st H) [1, 2, 4] [] (fun _ s198 => [(6, .v (.int .i64 (s198)))]) (fun _ s198 => []) 0 (fun n221 H => ?_)
  refine ⟨(n221, _), ⟨H⟩, ⟨trivial⟩, ?_⟩
  repeat refine mo1ZR1 ?_
  rintro ⟨m0, s198⟩ H _
  obtain ⟨m199, hm0, H⟩ := IG_succ H
  dsimp only at hm0
  subst hm0
  try dsimp only at H
  refine if_st H (fun h213 H => ?_) (fun h213 H => ?_)
  ·refine ob_ix hR1_0 (fun h => es0 h) H fun h214 H => ?_
   refine ld_str (e := a1.getD s198.toNat default) (rd_get hR1_0 (es_get (l := a1) (tn h214))) ?_
   obtain ⟨v215, hv216, H⟩ := call_st H
   refine ⟨(a1.getD s198.toNat default, v215), ⟨hv216⟩, ⟨trivial⟩, ?_⟩
   refine And.intro ⟨rfl⟩ ?_
   refine if_st H (fun h217 H => ?_) (fun h217 H => ?_)
   ·replace H := some_st H
    dsimp only [stp, sm] at H
    have hfin := fin_st H
    first | subst hfin | (replace hfin := hfin.symm; subst hfin)
    refine ⟨(A0_0, cp0_0), ⟨hc0_0⟩, ⟨⟨hR0_0, trivial⟩⟩, ?_⟩
    repeat refine mo1ZR1 ?_
    first | exact trivial | exact rfl
   ·refine ob_ck H fun h218 H => ?_
    replace H := some_st H
    refine ⟨(m199, s198 + 1), ⟨H, Nat.lt_succ_self _⟩, ⟨trivial⟩, ⟨rfl⟩, ?_⟩
    repeat refine mo1ZR1 ?_
    first | exact trivial | exact rfl
  ·replace H := some_st H
   dsimp only [stp, sm] at H
   refine ⟨(), ⟨H⟩, ⟨rfl⟩, ?_⟩
   repeat refine mo1ZR1 ?_
   first | exact trivial | exact rfl
 ·intro v194 H
  refine ob_ck H fun h224 H => ?_
  refine if_st H (fun h225 H => ?_) (fun h225 H => ?_)
  ·have hfin := fin_st H
   first | subst hfin | (replace hfin := hfin.symm; subst hfin)
   refine ⟨(A0_0, cp0_0), ⟨hc0_0⟩, ⟨⟨hR0_0, trivial⟩⟩, ?_⟩
   repeat refine mo1ZR1 ?_
   first | exact trivial | exact rfl
  ·obtain ⟨v226, hv227, H⟩ := call_st H
   refine ⟨(a0.1, a0.2.1, a0.2.1, a1, v226), ⟨hv227⟩, ⟨trivial⟩, ?_⟩
   refine And.intro ⟨rfl, hc0_0, es_len.trans ((show _ = _ from rfl).trans (Nat.mul_one _).symm), hR0_0⟩ ?_
   iterate 2 refine And.intro ⟨rfl⟩ ?_
   refine And.intro ⟨rfl, hc1_0, es_len.trans ((show _ = _ from rfl).trans (Nat.mul_one _).symm), hR1_0⟩ ?_
   refine ob_ck H fun h228 H => ?_
   intro q229 A230 c231 hq232 hc233 hR234
   replace hR234 : Reads q229 A230 (es v226) := Eq.mp (congrArg (Reads q229 A230) (by first | exact rfl | (simp only [ei, eb, es, ec, c133, gmin, gmax, List.map_append, List.flatMap_append, List.nil_append, List.append_nil, List.append_assoc]; done))) hR234
   have hfin := fin_st H
   first | subst hfin | (replace hfin := hfin.symm; subst hfin)
   refine ⟨(A230, c231), ⟨hc233⟩, ⟨⟨hR234, trivial⟩⟩, ?_⟩
   repeat refine mo1ZR1 ?_
   first | exact trivial | exact rfl
noncomputable def g22 (a0 : (List ByteArray × Int × Int)) (a1 : Int) (a2 : ByteArray) : Option ((List ByteArray × Int × Int) × Int) :=
 if a1 < 0 then
  some ((a0.1, a0.2.1, a0.2.2), 5)
 else
  (
   if ((a0.1.length : Nat) : Int) ≤ a1 then
    some ((a0.1, a0.2.1, a0.2.2), 5)
   else
    (
     (g49 a2).bind fun v243 =>
     if ¬ (v243 = true) then
      some ((a0.1, a0.2.1, a0.2.2), 1)
     else
      (
       ck (inR .i64 (a1 + 1)) <|
       (g47 a0.1 a1 (a1 + 1) ([a2])).bind fun v247 =>
       some ((v247, a0.2.1, a0.2.2), 0)
      )
    )
  )
noncomputable def k22 : Eng.CS := { f := 22, calm := false, more := 0, ι := (List ByteArray × Int × Int) × Int × ByteArray × ((List ByteArray × Int × Int) × Int) × ((Option Addr × Nat)), ok := fun i => g22 i.1 i.2.1 i.2.2.1 = some i.2.2.2.1 ∧ i.1.1.length ≤ i.2.2.2.2.2, rds := fun i => [(i.2.2.2.2.1, es i.1.1)], args := fun i => [.w (.agg [.v (.slice i.2.2.2.2.1 i.1.1.length i.2.2.2.2.2), .v (.int .i64 (i.1.2.1)), .v (.int .i64 (i.1.2.2))]), .w (.v (.int .i64 (i.2.1))), .w (.v (.string (i.2.2.1)))], res := fun _ => .bad, rn := [], gr := true, γ := (Option Addr × Nat), resG := fun i g => .tup [.agg [.v (.slice g.1 i.2.2.2.1.1.1.length g.2), .v (.int .i64 (i.2.2.2.1.1.2.1)), .v (.int .i64 (i.2.2.2.1.1.2.2))], .v (.int .i64 (i.2.2.2.1.2))], LG := fun i _ => [], okG := fun i g => i.2.2.2.1.1.1.length ≤ g.2, rdsG := fun i g => [(g.1, es i.2.2.2.1.1.1)], fzr := [(0, 0)] }
set_option maxRecDepth 8000 in
set_option maxHeartbeats 4000000 in
theorem k22_ok : CSOk Tryz.prog k22 := by
 refine R.cspecG Tryz.func22 nm22 rfl rfl (fun _ => rfl) ?_
 rintro ⟨a0, a1, a2, r, ⟨A0_0, cp0_0⟩⟩ ⟨hok, hc0_0⟩ q hrds args hargs
 obtain ⟨hR0_0, _⟩ := hrds
 dsimp only at hR0_0 hc0_0
 dsimp only [k22] at hargs ⊢
 match args, hargs with
 | [_, _, _], hargs =>
 obtain ⟨rfl, rfl, rfl, _⟩ := hargs
 refine ⟨envC [k47, k49] false [], 6, envC_ok (css_cons ⟨fun h => (by cases h), fun _ => k47_ok⟩ (css_cons ⟨fun _ => k49_ok, fun h => (by cases h)⟩ (css_nil))), ?_⟩
 have H : Gives (g22 a0 a1 a2) (fun a => a = r) := ⟨r, hok, rfl⟩
 unfold g22 at H
 clear hok
 refine if_st H (fun h238 H => ?_) (fun h238 H => ?_)
 ·have hfin := fin_st H
  first | subst hfin | (replace hfin := hfin.symm; subst hfin)
  refine ⟨(A0_0, cp0_0), ⟨hc0_0⟩, ⟨⟨hR0_0, trivial⟩⟩, ?_⟩
  repeat refine mo1ZR1 ?_
  first | exact trivial | exact rfl
 ·refine if_st H (fun h239 H => ?_) (fun h239 H => ?_)
  ·have hfin := fin_st H
   first | subst hfin | (replace hfin := hfin.symm; subst hfin)
   refine ⟨(A0_0, cp0_0), ⟨hc0_0⟩, ⟨⟨hR0_0, trivial⟩⟩, ?_⟩
   repeat refine mo1ZR1 ?_
   first | exact trivial | exact rfl
  ·obtain ⟨v243, hv244, H⟩ := call_st H
   refine ⟨(a2, v243), ⟨hv244⟩, ⟨trivial⟩, ?_⟩
   refine And.intro ⟨rfl⟩ ?_
   refine if_st H (fun h245 H => ?_) (fun h245 H => ?_)
   ·have hfin := fin_st H
    first | subst hfin | (replace hfin := hfin.symm; subst hfin)
    refine ⟨(A0_0, cp0_0), ⟨hc0_0⟩, ⟨⟨hR0_0, trivial⟩⟩, ?_⟩
    repeat refine mo1ZR1 ?_
    first | exact trivial | exact rfl
   ·refine ob_ck H fun h246 H => ?_
    obtain ⟨v247, hv248, H⟩ := call_st H
    refine ⟨(a0.1, a1, a1 + 1, [a2], v247), ⟨hv248⟩, ⟨trivial⟩, ?_⟩
    refine And.intro ⟨rfl, hc0_0, es_len.trans ((show _ = _ from rfl).trans (Nat.mul_one _).symm), hR0_0⟩ ?_
    iterate 2 refine And.intro ⟨rfl⟩ ?_
    refine And.intro ⟨by first | rfl | (simp; done), by first | rfl | (simp [ei, eb, es, ec, c133]; done) | (simp only [ei, eb, es, ec, c133, List.map_append, List.nil_append, List.append_assoc]; rfl)⟩ ?_
    intro q249 A250 c251 hq252 hc253 hR254
    replace hR254 : Reads q249 A250 (es v247) := Eq.mp (congrArg (Reads q249 A250) (by first | exact rfl | (simp only [ei, eb, es, ec, c133, gmin, gmax, List.map_append, List.flatMap_append, List.nil_append, List.append_nil, List.append_assoc]; done))) hR254
    have hfin := fin_st H
    first | subst hfin | (replace hfin := hfin.symm; subst hfin)
    refine ⟨(A250, c251), ⟨hc253⟩, ⟨⟨hR254, trivial⟩⟩, ?_⟩
    repeat refine mo1ZR1 ?_
    first | exact trivial | exact rfl
noncomputable def g18 (a0 : (List ByteArray × Int × Int)) (a1 : Int) : Option ((List ByteArray × Int × Int) × Int) :=
 (g46 (a0.1, a0.2.1, a0.2.2) a1).bind fun v255 =>
 some ((a0.1, v255, a0.2.2), v255)
noncomputable def k18 : Eng.CS := { f := 18, calm := false, more := 0, ι := (List ByteArray × Int × Int) × Int × ((List ByteArray × Int × Int) × Int) × ((Option Addr × Nat)), ok := fun i => g18 i.1 i.2.1 = some i.2.2.1 ∧ i.1.1.length ≤ i.2.2.2.2, rds := fun i => [(i.2.2.2.1, es i.1.1)], args := fun i => [.w (.agg [.v (.slice i.2.2.2.1 i.1.1.length i.2.2.2.2), .v (.int .i64 (i.1.2.1)), .v (.int .i64 (i.1.2.2))]), .w (.v (.int .i64 (i.2.1)))], res := fun _ => .bad, rn := [], gr := true, γ := (Option Addr × Nat), resG := fun i g => .tup [.agg [.v (.slice g.1 i.2.2.1.1.1.length g.2), .v (.int .i64 (i.2.2.1.1.2.1)), .v (.int .i64 (i.2.2.1.1.2.2))], .v (.int .i64 (i.2.2.1.2))], LG := fun i _ => [], okG := fun i g => i.2.2.1.1.1.length ≤ g.2, rdsG := fun i g => [(g.1, es i.2.2.1.1.1)], fzr := [(0, 0)] }
set_option maxRecDepth 8000 in
set_option maxHeartbeats 4000000 in
theorem k18_ok : CSOk Tryz.prog k18 := by
 refine R.cspecG Tryz.func18 nm18 rfl rfl (fun _ => rfl) ?_
 rintro ⟨a0, a1, r, ⟨A0_0, cp0_0⟩⟩ ⟨hok, hc0_0⟩ q hrds args hargs
 obtain ⟨hR0_0, _⟩ := hrds
 dsimp only at hR0_0 hc0_0
 dsimp only [k18] at hargs ⊢
 match args, hargs with
 | [_, _], hargs =>
 obtain ⟨rfl, rfl, _⟩ := hargs
 refine ⟨envC [k46] false [], 6, envC_ok (css_cons ⟨fun h => (by cases h), fun _ => k46_ok⟩ (css_nil)), ?_⟩
 have H : Gives (g18 a0 a1) (fun a => a = r) := ⟨r, hok, rfl⟩
 unfold g18 at H
 clear hok
 obtain ⟨v255, hv256, H⟩ := call_st H
 refine ⟨((a0.1, a0.2.1, a0.2.2), a1, v255, (A0_0, cp0_0)), ⟨hv256, hc0_0⟩, ⟨⟨hR0_0, trivial⟩⟩, ?_⟩
 iterate 4 refine And.intro ⟨rfl⟩ ?_
 intro q257 g258 hq259 hok260 hrd261
 refine And.intro ⟨by kernel_rfl⟩ ?_
 refine ⟨(Pn.calm 0 (Pn.calm 1 (Pn.calm 2 (Pn.eff 3 [0] (Pn.calm 4 Pn.done) Pn.no)))), ⟨by kernel_rfl⟩, ?_⟩
 refine And.intro ?_ trivial
 refine And.intro ⟨fun _ _ _ h => h⟩ ?_
 have hfin := fin_st H
 first | subst hfin | (replace hfin := hfin.symm; subst hfin)
 refine ⟨(A0_0, cp0_0), ⟨hc0_0⟩, ⟨⟨(Reads.mono hq259 hR0_0), trivial⟩⟩, ?_⟩
 repeat refine mo1ZR1 ?_
 first | exact trivial | exact rfl
noncomputable def g19 (a0 : (List ByteArray × Int × Int)) (a1 : Int) (a2 : Int) : Option ((List ByteArray × Int × Int) × List ByteArray) :=
 (g46 (a0.1, a0.2.1, a0.2.2) a1).bind fun v262 =>
 (g46 (a0.1, a0.2.1, a0.2.2) a2).bind fun v269 =>
 if v269 ≤ v262 then
  some ((a0.1, a0.2.1, a0.2.2), ([] : List ByteArray))
 else
  (
   ck (0 ≤ v262 ∧ v262 ≤ v269 ∧ v269 ≤ ((a0.1.length : Nat) : Int)) <|
   ck ((0 + (((a0.1.drop v262.toNat).take (v269.toNat - v262.toNat)).length)) * 16 ≤ 140737488355328) <|
   (g47 a0.1 v262 v269 ([] : List ByteArray)).bind fun v287 =>
   if v269 ≤ a0.2.1 then
    (
     ck (inR .i64 (v269 - v262)) <|
     ck (inR .i64 (a0.2.1 - (v269 - v262))) <|
     some ((v287, a0.2.1 - (v269 - v262), a0.2.2), (([] : List ByteArray) ++ ((a0.1.drop v262.toNat).take (v269.toNat - v262.toNat))))
    )
   else
    (
     if v262 < a0.2.1 then
      some ((v287, v262, a0.2.2), (([] : List ByteArray) ++ ((a0.1.drop v262.toNat).take (v269.toNat - v262.toNat))))
     else
      some ((v287, a0.2.1, a0.2.2), (([] : List ByteArray) ++ ((a0.1.drop v262.toNat).take (v269.toNat - v262.toNat))))
    )
  )
noncomputable def k19 : Eng.CS := { f := 19, calm := false, more := 0, ι := (List ByteArray × Int × Int) × Int × Int × ((List ByteArray × Int × Int) × List ByteArray) × ((Option Addr × Nat)), ok := fun i => g19 i.1 i.2.1 i.2.2.1 = some i.2.2.2.1 ∧ i.1.1.length ≤ i.2.2.2.2.2, rds := fun i => [(i.2.2.2.2.1, es i.1.1)], args := fun i => [.w (.agg [.v (.slice i.2.2.2.2.1 i.1.1.length i.2.2.2.2.2), .v (.int .i64 (i.1.2.1)), .v (.int .i64 (i.1.2.2))]), .w (.v (.int .i64 (i.2.1))), .w (.v (.int .i64 (i.2.2.1)))], res := fun _ => .bad, rn := [], gr := true, γ := (Option Addr × Nat) × (Option Addr × Nat), resG := fun i g => .tup [.agg [.v (.slice g.1.1 i.2.2.2.1.1.1.length g.1.2), .v (.int .i64 (i.2.2.2.1.1.2.1)), .v (.int .i64 (i.2.2.2.1.1.2.2))], .v (.slice g.2.1 i.2.2.2.1.2.length g.2.2)], LG := fun i _ => [], okG := fun i g => i.2.2.2.1.1.1.length ≤ g.1.2 ∧ i.2.2.2.1.2.length ≤ g.2.2, rdsG := fun i g => [(g.1.1, es i.2.2.2.1.1.1), (g.2.1, es i.2.2.2.1.2)], fzr := [(0, 0), (1, 0)] }
set_option maxRecDepth 8000 in
set_option maxHeartbeats 4000000 in
theorem k19_ok : CSOk Tryz.prog k19 := by
 refine R.cspecG Tryz.func19 nm19 rfl rfl (fun _ => rfl) ?_
 rintro ⟨a0, a1, a2, r, ⟨A0_0, cp0_0⟩⟩ ⟨hok, hc0_0⟩ q hrds args hargs
 obtain ⟨hR0_0, _⟩ := hrds
 dsimp only at hR0_0 hc0_0
 dsimp only [k19] at hargs ⊢
 match args, hargs with
 | [_, _, _], hargs =>
 obtain ⟨rfl, rfl, rfl, _⟩ := hargs
 refine ⟨envC [k46, k47] false [], 6, envC_ok (css_cons ⟨fun h => (by cases h), fun _ => k46_ok⟩ (css_cons ⟨fun h => (by cases h), fun _ => k47_ok⟩ (css_nil))), ?_⟩
 have H : Gives (g19 a0 a1 a2) (fun a => a = r) := ⟨r, hok, rfl⟩
 unfold g19 at H
 clear hok
 obtain ⟨v262, hv263, H⟩ := call_st H
 refine ⟨((a0.1, a0.2.1, a0.2.2), a1, v262, (A0_0, cp0_0)), ⟨hv263, hc0_0⟩, ⟨⟨hR0_0, trivial⟩⟩, ?_⟩
 iterate 4 refine And.intro ⟨rfl⟩ ?_
 intro q264 g265 hq266 hok267 hrd268
 obtain ⟨v269, hv270, H⟩ := call_st H
 refine ⟨((a0.1, a0.2.1, a0.2.2), a2, v269, (A0_0, cp0_0)), ⟨hv270, hc0_0⟩, ⟨⟨(Reads.mono hq266 hR0_0), trivial⟩⟩, ?_⟩
 iterate 4 refine And.intro ⟨rfl⟩ ?_
 intro q271 g272 hq273 hok274 hrd275
 refine if_st H (fun h277 H => ?_) (fun h277 H => ?_)
 ·have hfin := fin_st H
  first | subst hfin | (replace hfin := hfin.symm; subst hfin)
  refine ⟨((A0_0, cp0_0), (none, 0)), ⟨⟨hc0_0, Nat.le_refl _⟩⟩, ⟨⟨(Reads.mono hq273 (Reads.mono hq266 hR0_0)), Reads.nil, trivial⟩⟩, ?_⟩
  repeat refine mo1ZR1 ?_
  first | exact trivial | exact rfl
 ·refine ob_sl hc0_0 H fun h278 H => ?_
  have hs279 := sl_es (Reads.mono hq273 (Reads.mono hq266 hR0_0)) rfl hc0_0 h278
  intro n280 hn281
  obtain rfl : n280 = ((a0.1.drop v262.toNat).take (v269.toNat - v262.toNat)).length := hn281.trans hs279.2.1.symm
  refine rs_st hs279.1 (es_len.trans (Nat.mul_one _).symm) ?_
  refine ob_app (by decide) (by first | exact es_one | ((repeat (refine List.forall_mem_cons.2 ⟨rfl, ?_⟩)); intro y hy; cases hy; done) | (intro y hy; simp [ei, eb, es, ec, c133] at hy; (first | (rcases hy with rfl | hy) | subst hy | skip); all_goals first | rfl | simp_all [Value.oneCell'])) H fun h282 H => ?_
  intro n283 zs285 hn284 hz286
  obtain rfl : n283 = (([] : List ByteArray) ++ ((a0.1.drop v262.toNat).take (v269.toNat - v262.toNat))).length := hn284.trans (by first | exact List.length_append.symm | (simp; done) | (simp; omega))
  obtain rfl : zs285 = es (([] : List ByteArray) ++ ((a0.1.drop v262.toNat).take (v269.toNat - v262.toNat))) := by first | exact hz286.trans (es_app (xs := ([] : List ByteArray)) (ys := ((a0.1.drop v262.toNat).take (v269.toNat - v262.toNat)))).symm | (rw [hz286, es_vw]; first | exact es_app.symm | exact (es_app (xs := ([] : List ByteArray))).symm) | (rw [hz286]; simp [ei, eb, es, ec, c133])
  obtain ⟨v287, hv288, H⟩ := call_st H
  refine ⟨(a0.1, v262, v269, ([] : List ByteArray), v287), ⟨hv288⟩, ⟨trivial⟩, ?_⟩
  refine And.intro ⟨rfl, hc0_0, es_len.trans ((show _ = _ from rfl).trans (Nat.mul_one _).symm), (Reads.mono hq273 (Reads.mono hq266 hR0_0))⟩ ?_
  iterate 2 refine And.intro ⟨rfl⟩ ?_
  refine And.intro ⟨rfl, Nat.le_refl _, rfl, Reads.nil⟩ ?_
  refine if_st H (fun h293 H => ?_) (fun h293 H => ?_)
  ·refine ob_ck H fun h294 H => ?_
   refine ob_ck H fun h295 H => ?_
   intro q296 A297 c298 hq299 hc300 hR301
   replace hR301 : Reads q296 A297 (es v287) := Eq.mp (congrArg (Reads q296 A297) (by first | exact rfl | (simp only [ei, eb, es, ec, c133, gmin, gmax, List.map_append, List.flatMap_append, List.nil_append, List.append_nil, List.append_assoc]; done))) hR301
   intro q302 A303 c304 hq305 hc306 hR307
   replace hR307 : Reads q302 A303 (es (([] : List ByteArray) ++ ((a0.1.drop v262.toNat).take (v269.toNat - v262.toNat)))) := Eq.mp (congrArg (Reads q302 A303) (by first | exact rfl | (simp only [ei, eb, es, ec, c133, gmin, gmax, List.map_append, List.flatMap_append, List.nil_append, List.append_nil, List.append_assoc]; done))) hR307
   have hfin := fin_st H
   first | subst hfin | (replace hfin := hfin.symm; subst hfin)
   refine ⟨((A297, c298), (A303, c304)), ⟨⟨hc300, hc306⟩⟩, ⟨⟨(Reads.mono hq305 hR301), hR307, trivial⟩⟩, ?_⟩
   repeat refine mo1ZR1 ?_
   first | exact trivial | exact rfl
  ·refine if_st H (fun h308 H => ?_) (fun h308 H => ?_)
   ·intro q309 A310 c311 hq312 hc313 hR314
    replace hR314 : Reads q309 A310 (es v287) := Eq.mp (congrArg (Reads q309 A310) (by first | exact rfl | (simp only [ei, eb, es, ec, c133, gmin, gmax, List.map_append, List.flatMap_append, List.nil_append, List.append_nil, List.append_assoc]; done))) hR314
    intro q315 A316 c317 hq318 hc319 hR320
    replace hR320 : Reads q315 A316 (es (([] : List ByteArray) ++ ((a0.1.drop v262.toNat).take (v269.toNat - v262.toNat)))) := Eq.mp (congrArg (Reads q315 A316) (by first | exact rfl | (simp only [ei, eb, es, ec, c133, gmin, gmax, List.map_append, List.flatMap_append, List.nil_append, List.append_nil, List.append_assoc]; done))) hR320
    have hfin := fin_st H
    first | subst hfin | (replace hfin := hfin.symm; subst hfin)
    refine ⟨((A310, c311), (A316, c317)), ⟨⟨hc313, hc319⟩⟩, ⟨⟨(Reads.mono hq318 hR314), hR320, trivial⟩⟩, ?_⟩
    repeat refine mo1ZR1 ?_
    first | exact trivial | exact rfl
   ·intro q321 A322 c323 hq324 hc325 hR326
    replace hR326 : Reads q321 A322 (es v287) := Eq.mp (congrArg (Reads q321 A322) (by first | exact rfl | (simp only [ei, eb, es, ec, c133, gmin, gmax, List.map_append, List.flatMap_append, List.nil_append, List.append_nil, List.append_assoc]; done))) hR326
    intro q327 A328 c329 hq330 hc331 hR332
    replace hR332 : Reads q327 A328 (es (([] : List ByteArray) ++ ((a0.1.drop v262.toNat).take (v269.toNat - v262.toNat)))) := Eq.mp (congrArg (Reads q327 A328) (by first | exact rfl | (simp only [ei, eb, es, ec, c133, gmin, gmax, List.map_append, List.flatMap_append, List.nil_append, List.append_nil, List.append_assoc]; done))) hR332
    have hfin := fin_st H
    first | subst hfin | (replace hfin := hfin.symm; subst hfin)
    refine ⟨((A322, c323), (A328, c329)), ⟨⟨hc325, hc331⟩⟩, ⟨⟨(Reads.mono hq330 hR326), hR332, trivial⟩⟩, ?_⟩
    repeat refine mo1ZR1 ?_
    first | exact trivial | exact rfl
noncomputable def g27 (a0 : (List ByteArray × Int × Int)) (a1 : Int) : Option (ByteArray × Bool) :=
 if a1 < 0 then
  some ((lit []), false)
 else
  (
   if ((a0.1.length : Nat) : Int) ≤ a1 then
    some ((lit []), false)
   else
    (
     ck (0 ≤ a1 ∧ a1 < ((a0.1.length : Nat) : Int)) <|
     some (a0.1.getD a1.toNat default, true)
    )
  )
noncomputable def k27 : Eng.CS := { f := 27, calm := false, more := 0, ι := (List ByteArray × Int × Int) × Int × (ByteArray × Bool) × ((Option Addr × Nat)), ok := fun i => g27 i.1 i.2.1 = some i.2.2.1 ∧ i.1.1.length ≤ i.2.2.2.2, rds := fun i => [(i.2.2.2.1, es i.1.1)], args := fun i => [.w (.agg [.v (.slice i.2.2.2.1 i.1.1.length i.2.2.2.2), .v (.int .i64 (i.1.2.1)), .v (.int .i64 (i.1.2.2))]), .w (.v (.int .i64 (i.2.1)))], res := fun _ => .bad, rn := [], gr := true, γ := Unit, resG := fun i _ => .tup [.v (.string (i.2.2.1.1)), bS i.2.2.1.2], LG := fun i _ => [], okG := fun i _ => True, rdsG := fun i _ => [], fzr := [] }
set_option maxRecDepth 8000 in
set_option maxHeartbeats 4000000 in
theorem k27_ok : CSOk Tryz.prog k27 := by
 refine R.cspecG Tryz.func27 nm27 rfl rfl (fun _ => rfl) ?_
 rintro ⟨a0, a1, r, ⟨A0_0, cp0_0⟩⟩ ⟨hok, hc0_0⟩ q hrds args hargs
 obtain ⟨hR0_0, _⟩ := hrds
 dsimp only at hR0_0 hc0_0
 dsimp only [k27] at hargs ⊢
 match args, hargs with
 | [_, _], hargs =>
 obtain ⟨rfl, rfl, _⟩ := hargs
 refine ⟨envC [] false [], 6, envC_ok (css_nil), ?_⟩
 have H : Gives (g27 a0 a1) (fun a => a = r) := ⟨r, hok, rfl⟩
 unfold g27 at H
 clear hok
 refine if_st H (fun h336 H => ?_) (fun h336 H => ?_)
 ·have hfin := fin_st H
  first | subst hfin | (replace hfin := hfin.symm; subst hfin)
  refine ⟨(), ⟨trivial⟩, ⟨trivial⟩, ?_⟩
  repeat refine mo1ZR1 ?_
  first | exact trivial | exact rfl
 ·refine if_st H (fun h337 H => ?_) (fun h337 H => ?_)
  ·have hfin := fin_st H
   first | subst hfin | (replace hfin := hfin.symm; subst hfin)
   refine ⟨(), ⟨trivial⟩, ⟨trivial⟩, ?_⟩
   repeat refine mo1ZR1 ?_
   first | exact trivial | exact rfl
  ·refine ob_ix hR0_0 (fun h => es0 h) H fun h338 H => ?_
   refine ld_str (e := a0.1.getD a1.toNat default) (rd_get hR0_0 (es_get (l := a0.1) (tn h338))) ?_
   have hfin := fin_st H
   first | subst hfin | (replace hfin := hfin.symm; subst hfin)
   refine ⟨(), ⟨trivial⟩, ⟨trivial⟩, ?_⟩
   repeat refine mo1ZR1 ?_
   first | exact trivial | exact rfl
noncomputable def g35 (a0 : (List ByteArray × Int × Int)) : Option (ByteArray) :=
 jn (α := _) (β := ByteArray) (fun k361 =>
   (loopO (σ := ByteArray × Int) (ρ := ByteArray) (fun s364 =>
     if s364.2 < ((a0.1.length : Nat) : Int) then
      (
       ck (0 ≤ s364.2 ∧ s364.2 < ((a0.1.length : Nat) : Int)) <|
       ck (s364.1.size + (a0.1.getD s364.2.toNat default).size ≤ 9223372036854775807) <|
       ck (inR .i64 (s364.2 + 1)) <|
       some (.go (s364.1 ++ (a0.1.getD s364.2.toNat default), s364.2 + 1))
      )
     else
      some (.out s364.1)
    ) ((lit []), 0)).bind fun o374 =>
    k361 o374
 ) (fun v360 =>
  some v360
 )
noncomputable def k35 : Eng.CS := { f := 35, calm := false, more := 0, ι := (List ByteArray × Int × Int) × ByteArray × ((Option Addr × Nat)), ok := fun i => g35 i.1 = some i.2.1 ∧ i.1.1.length ≤ i.2.2.2, rds := fun i => [(i.2.2.1, es i.1.1)], args := fun i => [.w (.agg [.v (.slice i.2.2.1 i.1.1.length i.2.2.2), .v (.int .i64 (i.1.2.1)), .v (.int .i64 (i.1.2.2))])], res := fun _ => .bad, rn := [], gr := true, γ := Unit, resG := fun i _ => .v (.string (i.2.1)), LG := fun i _ => [], okG := fun i _ => True, rdsG := fun i _ => [], fzr := [] }
set_option maxRecDepth 8000 in
set_option maxHeartbeats 4000000 in
theorem k35_ok : CSOk Tryz.prog k35 := by
 refine R.cspecG Tryz.func35 nm35 rfl rfl (fun _ => rfl) ?_
 rintro ⟨a0, r, ⟨A0_0, cp0_0⟩⟩ ⟨hok, hc0_0⟩ q hrds args hargs
 obtain ⟨hR0_0, _⟩ := hrds
 dsimp only at hR0_0 hc0_0
 dsimp only [k35] at hargs ⊢
 match args, hargs with
 | [_], hargs =>
 obtain ⟨rfl, _⟩ := hargs
 refine ⟨envC [] false [(35, 6)], 6, envC_ok (css_nil), ?_⟩
 have H : Gives (g35 a0) (fun a => a = r) := ⟨r, hok, rfl⟩
 unfold g35 at H
 clear hok
 refine R.cut_fam H 11 [] [] (fun v360 => [(3, .v (.string (v360)))]) (fun v360 => []) [(0, .cells 29 [.v (.slice (A0_0) (a0.1.length) (cp0_0)), .v (.int .i64 (a0.2.1)), .v (.int .i64 (a0.2.2))])] 0 (fun H => ?_)
 refine And.intro ?_ ?_
 ·refine R.loop_fam (bind_st H) [1] [] (fun _ s364 => [(3, .v (.string (s364.1))), (4, .v (.int .i64 (s364.2)))]) (fun _ s364 => []) 0 (fun n379 H => ?_)
  refine ⟨(n379, _), ⟨H⟩, ⟨trivial⟩, ?_⟩
  repeat refine mo1ZR1 ?_
  rintro ⟨m0, s364⟩ H _
  obtain ⟨m365, hm0, H⟩ := IG_succ H
  dsimp only at hm0
  subst hm0
  try dsimp only at H
  refine if_st H (fun h375 H => ?_) (fun h375 H => ?_)
  ·refine ob_ix hR0_0 (fun h => es0 h) H fun h376 H => ?_
   refine ld_str (e := a0.1.getD s364.2.toNat default) (rd_get hR0_0 (es_get (l := a0.1) (tn h376))) ?_
   refine ob_ck H fun h377 H => ?_
   refine ob_ck H fun h378 H => ?_
   replace H := some_st H
   refine ⟨(m365, (s364.1 ++ (a0.1.getD s364.2.toNat default), s364.2 + 1)), ⟨H, Nat.lt_succ_self _⟩, ⟨trivial⟩, ⟨rfl⟩, ?_⟩
   repeat refine mo1ZR1 ?_
   first | exact trivial | exact rfl
  ·replace H := some_st H
   dsimp only [stp, sm] at H
   refine ⟨s364.1, ⟨H⟩, ⟨rfl⟩, ?_⟩
   repeat refine mo1ZR1 ?_
   first | exact trivial | exact rfl
 ·intro v360 H
  have hfin := fin_st H
  first | subst hfin | (replace hfin := hfin.symm; subst hfin)
  refine ⟨(), ⟨trivial⟩, ⟨trivial⟩, ?_⟩
  repeat refine mo1ZR1 ?_
  first | exact trivial | exact rfl
noncomputable def g37 (a0 : (List ByteArray × Int × Int)) : Option (List Int) :=
 jn (α := _) (β := List Int) (fun k426 =>
   (loopO (σ := List Int × Int) (ρ := List Int) (fun s429 =>
     if s429.2 < ((a0.1.length : Nat) : Int) then
      (
       ck (0 ≤ s429.2 ∧ s429.2 < ((a0.1.length : Nat) : Int)) <|
       (g55 (a0.1.getD s429.2.toNat default)).bind fun v454 =>
       ck ((s429.1.length + 1) * 8 ≤ 140737488355328) <|
       ck (inR .i64 (s429.2 + 1)) <|
       some (.go ((s429.1 ++ [v454]), s429.2 + 1))
      )
     else
      some (.out s429.1)
    ) ([], 0)).bind fun o451 =>
    k426 o451
 ) (fun v425 =>
  some v425
 )
noncomputable def k37 : Eng.CS := { f := 37, calm := false, more := 0, ι := (List ByteArray × Int × Int) × List Int × ((Option Addr × Nat)), ok := fun i => g37 i.1 = some i.2.1 ∧ i.1.1.length ≤ i.2.2.2, rds := fun i => [(i.2.2.1, es i.1.1)], args := fun i => [.w (.agg [.v (.slice i.2.2.1 i.1.1.length i.2.2.2), .v (.int .i64 (i.1.2.1)), .v (.int .i64 (i.1.2.2))])], res := fun _ => .bad, rn := [], gr := true, γ := (Option Addr × Nat), resG := fun i g => .v (.slice g.1 i.2.1.length g.2), LG := fun i _ => [], okG := fun i g => i.2.1.length ≤ g.2, rdsG := fun i g => [(g.1, ei .i64 i.2.1)], fzr := [(0, 0)] }
set_option maxRecDepth 8000 in
set_option maxHeartbeats 4000000 in
theorem k37_ok : CSOk Tryz.prog k37 := by
 refine R.cspecG Tryz.func37 nm37 rfl rfl (fun _ => rfl) ?_
 rintro ⟨a0, r, ⟨A0_0, cp0_0⟩⟩ ⟨hok, hc0_0⟩ q hrds args hargs
 obtain ⟨hR0_0, _⟩ := hrds
 dsimp only at hR0_0 hc0_0
 dsimp only [k37] at hargs ⊢
 match args, hargs with
 | [_], hargs =>
 obtain ⟨rfl, _⟩ := hargs
 refine ⟨envC [k55] false [(37, 6)], 6, envC_ok (css_cons ⟨fun _ => k55_ok, fun h => (by cases h)⟩ (css_nil)), ?_⟩
 have H : Gives (g37 a0) (fun a => a = r) := ⟨r, hok, rfl⟩
 unfold g37 at H
 clear hok
 refine R.cut_fam H 14 [] [] (fun v425 => [(3, .own 14)]) (fun v425 => [(14, .arr 3 1 (v425.length) (ei .i64 (v425)))]) [(0, .cells 29 [.v (.slice (A0_0) (a0.1.length) (cp0_0)), .v (.int .i64 (a0.2.1)), .v (.int .i64 (a0.2.2))])] 1 (fun H => ?_)
 refine And.intro ?_ ?_
 ·refine R.loop_fam (bind_st H) [1] [(3, 0, 3, 1)] (fun _ s429 => [(3, .own 5), (4, .v (.int .i64 (s429.2)))]) (fun _ s429 => [(5, .arr 3 1 (s429.1.length) (ei .i64 (s429.1)))]) 1 (fun n462 H => ?_)
  refine ⟨(n462, _), ⟨H⟩, ⟨trivial⟩, ?_⟩
  repeat refine mo1ZR1 ?_
  rintro ⟨m0, s429⟩ H _
  obtain ⟨m430, hm0, H⟩ := IG_succ H
  dsimp only at hm0
  subst hm0
  try dsimp only at H
  refine if_st H (fun h452 H => ?_) (fun h452 H => ?_)
  ·refine ob_ix hR0_0 (fun h => es0 h) H fun h453 H => ?_
   refine ld_str (e := a0.1.getD s429.2.toNat default) (rd_get hR0_0 (es_get (l := a0.1) (tn h453))) ?_
   obtain ⟨v454, hv455, H⟩ := call_st H
   refine ⟨(a0.1.getD s429.2.toNat default, v454), ⟨hv455⟩, ⟨trivial⟩, ?_⟩
   refine And.intro ⟨rfl⟩ ?_
   refine ob_app (by decide) (by first | exact ei_one | ((repeat (refine List.forall_mem_cons.2 ⟨rfl, ?_⟩)); intro y hy; cases hy; done) | (intro y hy; simp [ei, eb, es, ec, c133] at hy; (first | (rcases hy with rfl | hy) | subst hy | skip); all_goals first | rfl | simp_all [Value.oneCell'])) H fun h456 H => ?_
   intro n457 zs459 hn458 hz460
   obtain rfl : n457 = (s429.1 ++ [v454]).length := hn458.trans (by first | exact List.length_append.symm | (simp; done) | (simp; omega))
   obtain rfl : zs459 = ei .i64 (s429.1 ++ [v454]) := by first | exact hz460.trans (ei_app (xs := s429.1) (ys := ([v454]))).symm | (rw [hz460, ei_vw]; first | exact ei_app.symm | exact (ei_app (xs := s429.1)).symm) | (rw [hz460]; simp [ei, eb, es, ec, c133])
   refine ob_ck H fun h461 H => ?_
   replace H := some_st H
   refine ⟨(m430, ((s429.1 ++ [v454]), s429.2 + 1)), ⟨H, Nat.lt_succ_self _⟩, ⟨trivial⟩, ⟨rfl⟩, ?_⟩
   repeat refine mo1ZR1 ?_
   first | exact trivial | exact rfl
  ·replace H := some_st H
   dsimp only [stp, sm] at H
   refine ⟨s429.1, ⟨H⟩, ⟨rfl⟩, ?_⟩
   repeat refine mo1ZR1 ?_
   first | exact trivial | exact rfl
 ·intro v425 H
  intro q463 A464 c465 hq466 hc467 hR468
  replace hR468 : Reads q463 A464 (ei .i64 v425) := Eq.mp (congrArg (Reads q463 A464) (by first | exact rfl | (simp only [ei, eb, es, ec, c133, gmin, gmax, List.map_append, List.flatMap_append, List.nil_append, List.append_nil, List.append_assoc]; done))) hR468
  have hfin := fin_st H
  first | subst hfin | (replace hfin := hfin.symm; subst hfin)
  refine ⟨(A464, c465), ⟨hc467⟩, ⟨⟨hR468, trivial⟩⟩, ?_⟩
  repeat refine mo1ZR1 ?_
  first | exact trivial | exact rfl
noncomputable def g24 (a0 : (List ByteArray × Int × Int)) (a1 : List ByteArray) : Option (Int × Bool) :=
 jn (α := _) (β := Unit) (fun k529 =>
   (loopO (σ := Int) (ρ := (Int) ⊕ (Unit)) (fun s532 =>
     if 0 < ((a1.length : Nat) : Int) then
      (
       if s532 < ((a0.1.length : Nat) : Int) then
        (
         ck (inR .i64 (((a0.1.length : Nat) : Int) - s532)) <|
         if ((a1.length : Nat) : Int) ≤ (((a0.1.length : Nat) : Int) - s532) then
          (
           ck (inR .i64 (s532 + ((a1.length : Nat) : Int))) <|
           ck (0 ≤ s532 ∧ s532 ≤ s532 + ((a1.length : Nat) : Int) ∧ s532 + ((a1.length : Nat) : Int) ≤ ((a0.1.length : Nat) : Int)) <|
           (g20 ((a0.1.drop s532.toNat).take ((s532 + ((a1.length : Nat) : Int)).toNat - s532.toNat)) a1).bind fun v570 =>
           if v570 = true then
            some (.out (.inl (s532)))
           else
            (
             ck (inR .i64 (s532 + 1)) <|
             some (.go (s532 + 1))
            )
          )
         else
          some (.out (.inr (())))
        )
       else
        some (.out (.inr (())))
      )
     else
      some (.out (.inr (())))
    ) a0.2.1).bind fun o560 =>
   sm o560 (fun o574 =>
     some (o574, true)
    ) (fun o575 =>
     k529 ()
    )
 ) (fun v528 =>
  some (0, false)
 )
noncomputable def k24 : Eng.CS := { f := 24, calm := false, more := 0, ι := (List ByteArray × Int × Int) × (List ByteArray) × (Int × Bool) × ((Option Addr × Nat) × (Option Addr × Nat)), ok := fun i => g24 i.1 i.2.1 = some i.2.2.1 ∧ i.1.1.length ≤ i.2.2.2.1.2 ∧ i.2.1.length ≤ i.2.2.2.2.2, rds := fun i => [(i.2.2.2.1.1, es i.1.1), (i.2.2.2.2.1, es i.2.1)], args := fun i => [.w (.agg [.v (.slice i.2.2.2.1.1 i.1.1.length i.2.2.2.1.2), .v (.int .i64 (i.1.2.1)), .v (.int .i64 (i.1.2.2))]), .w (.v (.slice i.2.2.2.2.1 i.2.1.length i.2.2.2.2.2))], res := fun _ => .bad, rn := [], gr := true, γ := Unit, resG := fun i _ => .tup [.v (.int .i64 (i.2.2.1.1)), bS i.2.2.1.2], LG := fun i _ => [], okG := fun i _ => True, rdsG := fun i _ => [], fzr := [] }
set_option maxRecDepth 8000 in
set_option maxHeartbeats 4000000 in
theorem k24_ok : CSOk Tryz.prog k24 := by
 refine R.cspecG Tryz.func24 nm24 rfl rfl (fun _ => rfl) ?_
 rintro ⟨a0, a1, r, ⟨⟨A0_0, cp0_0⟩, ⟨A1_0, cp1_0⟩⟩⟩ ⟨hok, hc0_0, hc1_0⟩ q hrds args hargs
 obtain ⟨hR0_0, hR1_0, _⟩ := hrds
 dsimp only at hR0_0 hc0_0 hR1_0 hc1_0
 dsimp only [k24] at hargs ⊢
 match args, hargs with
 | [_, _], hargs =>
 obtain ⟨rfl, rfl, _⟩ := hargs
 refine ⟨envC [k20] false [(24, 6)], 6, envC_ok (css_cons ⟨fun _ => k20_ok, fun h => (by cases h)⟩ (css_nil)), ?_⟩
 have H : Gives (g24 a0 a1) (fun a => a = r) := ⟨r, hok, rfl⟩
 unfold g24 at H
 clear hok
 refine R.cut_fam H 28 [] [] (fun v528 => []) (fun v528 => []) [(0, .cells 29 [.v (.slice (A0_0) (a0.1.length) (cp0_0)), .v (.int .i64 (a0.2.1)), .v (.int .i64 (a0.2.2))])] 0 (fun H => ?_)
 refine And.intro ?_ ?_
 ·refine R.loop_fam (bind_st H) [1, 2] [] (fun _ s532 => [(6, .v (.int .i64 (s532)))]) (fun _ s532 => []) 0 (fun n576 H => ?_)
  refine ⟨(n576, _), ⟨H⟩, ⟨trivial⟩, ?_⟩
  repeat refine mo1ZR1 ?_
  rintro ⟨m0, s532⟩ H _
  obtain ⟨m533, hm0, H⟩ := IG_succ H
  dsimp only at hm0
  subst hm0
  try dsimp only at H
  refine if_st H (fun h561 H => ?_) (fun h561 H => ?_)
  ·refine if_st H (fun h562 H => ?_) (fun h562 H => ?_)
   ·refine ob_ck H fun h563 H => ?_
    refine if_st H (fun h564 H => ?_) (fun h564 H => ?_)
    ·refine ob_ck H fun h565 H => ?_
     refine ob_sl hc0_0 H fun h566 H => ?_
     have hs567 := sl_es hR0_0 rfl hc0_0 h566
     intro n568 hn569
     obtain rfl : n568 = ((a0.1.drop s532.toNat).take ((s532 + ((a1.length : Nat) : Int)).toNat - s532.toNat)).length := hn569.trans hs567.2.1.symm
     obtain ⟨v570, hv571, H⟩ := call_st H
     refine ⟨(((a0.1.drop s532.toNat).take ((s532 + ((a1.length : Nat) : Int)).toNat - s532.toNat)), a1, v570), ⟨hv571⟩, ⟨trivial⟩, ?_⟩
     refine And.intro ⟨rfl, (Nat.le_trans (Nat.le_of_eq hs567.2.1) hs567.2.2), es_len.trans ((show _ = _ from rfl).trans (Nat.mul_one _).symm), hs567.1⟩ ?_
     refine And.intro ⟨rfl, hc1_0, es_len.trans ((show _ = _ from rfl).trans (Nat.mul_one _).symm), hR1_0⟩ ?_
     refine if_st H (fun h572 H => ?_) (fun h572 H => ?_)
     ·replace H := some_st H
      dsimp only [stp, sm] at H
      have hfin := fin_st H
      first | subst hfin | (replace hfin := hfin.symm; subst hfin)
      refine ⟨(), ⟨trivial⟩, ⟨trivial⟩, ?_⟩
      repeat refine mo1ZR1 ?_
      first | exact trivial | exact rfl
     ·refine ob_ck H fun h573 H => ?_
      replace H := some_st H
      refine ⟨(m533, s532 + 1), ⟨H, Nat.lt_succ_self _⟩, ⟨trivial⟩, ⟨rfl⟩, ?_⟩
      repeat refine mo1ZR1 ?_
      first | exact trivial | exact rfl
    ·replace H := some_st H
     dsimp only [stp, sm] at H
     refine ⟨(), ⟨H⟩, ⟨rfl⟩, ?_⟩
     repeat refine mo1ZR1 ?_
     first | exact trivial | exact rfl
   ·replace H := some_st H
    dsimp only [stp, sm] at H
    refine ⟨(), ⟨H⟩, ⟨rfl⟩, ?_⟩
    repeat refine mo1ZR1 ?_
    first | exact trivial | exact rfl
  ·replace H := some_st H
   dsimp only [stp, sm] at H
   refine ⟨(), ⟨H⟩, ⟨rfl⟩, ?_⟩
   repeat refine mo1ZR1 ?_
   first | exact trivial | exact rfl
 ·intro v528 H
  have hfin := fin_st H
  first | subst hfin | (replace hfin := hfin.symm; subst hfin)
  refine ⟨(), ⟨trivial⟩, ⟨trivial⟩, ?_⟩
  repeat refine mo1ZR1 ?_
  first | exact trivial | exact rfl
noncomputable def g31 (a0 : (List ByteArray × Int × Int)) : Option (List Int × List ByteArray) :=
 jn (α := _) (β := List Int × List ByteArray) (fun k636 =>
   ck (inR .i64 (a0.2.1 - 1)) <|
   (loopO (σ := List Int × List ByteArray × Int) (ρ := List Int × List ByteArray) (fun s640 =>
     if 0 ≤ s640.2.2 then
      (
       ck ((s640.1.length + 1) * 8 ≤ 140737488355328) <|
       ck (0 ≤ s640.2.2 ∧ s640.2.2 < ((a0.1.length : Nat) : Int)) <|
       ck ((s640.2.1.length + 1) * 16 ≤ 140737488355328) <|
       ck (inR .i64 (s640.2.2 - 1)) <|
       some (.go ((s640.1 ++ [s640.2.2]), (s640.2.1 ++ [a0.1.getD s640.2.2.toNat default]), s640.2.2 - 1))
      )
     else
      some (.out (s640.1, s640.2.1))
    ) ([], [], a0.2.1 - 1)).bind fun o668 =>
    k636 (o668.1, o668.2)
 ) (fun v635 =>
  some (v635.1, v635.2)
 )
noncomputable def k31 : Eng.CS := { f := 31, calm := false, more := 0, ι := (List ByteArray × Int × Int) × (List Int × List ByteArray) × ((Option Addr × Nat)), ok := fun i => g31 i.1 = some i.2.1 ∧ i.1.1.length ≤ i.2.2.2, rds := fun i => [(i.2.2.1, es i.1.1)], args := fun i => [.w (.agg [.v (.slice i.2.2.1 i.1.1.length i.2.2.2), .v (.int .i64 (i.1.2.1)), .v (.int .i64 (i.1.2.2))])], res := fun _ => .bad, rn := [], gr := true, γ := (Option Addr × Nat) × (Option Addr × Nat), resG := fun i g => .tup [.v (.slice g.1.1 i.2.1.1.length g.1.2), .v (.slice g.2.1 i.2.1.2.length g.2.2)], LG := fun i _ => [], okG := fun i g => i.2.1.1.length ≤ g.1.2 ∧ i.2.1.2.length ≤ g.2.2, rdsG := fun i g => [(g.1.1, ei .i64 i.2.1.1), (g.2.1, es i.2.1.2)], fzr := [(0, 0), (1, 0)] }
set_option maxRecDepth 8000 in
set_option maxHeartbeats 4000000 in
theorem k31_ok : CSOk Tryz.prog k31 := by
 refine R.cspecG Tryz.func31 nm31 rfl rfl (fun _ => rfl) ?_
 rintro ⟨a0, r, ⟨A0_0, cp0_0⟩⟩ ⟨hok, hc0_0⟩ q hrds args hargs
 obtain ⟨hR0_0, _⟩ := hrds
 dsimp only at hR0_0 hc0_0
 dsimp only [k31] at hargs ⊢
 match args, hargs with
 | [_], hargs =>
 obtain ⟨rfl, _⟩ := hargs
 refine ⟨envC [] false [(31, 8)], 6, envC_ok (css_nil), ?_⟩
 have H : Gives (g31 a0) (fun a => a = r) := ⟨r, hok, rfl⟩
 unfold g31 at H
 clear hok
 refine R.cut_fam H 19 [] [] (fun v635 => [(4, .own 19), (5, .own 20)]) (fun v635 => [(19, .arr 3 1 (v635.1.length) (ei .i64 (v635.1))), (20, .arr 9 1 (v635.2.length) (es (v635.2)))]) [(0, .cells 29 [.v (.slice (A0_0) (a0.1.length) (cp0_0)), .v (.int .i64 (a0.2.1)), .v (.int .i64 (a0.2.2))])] 2 (fun H => ?_)
 refine And.intro ?_ ?_
 ·refine ob_ck H fun h637 H => ?_
  refine R.loop_fam (bind_st H) [1] [(4, 0, 3, 1), (5, 0, 9, 1)] (fun _ s640 => [(4, .own 11), (5, .own 12), (6, .v (.int .i64 (s640.2.2)))]) (fun _ s640 => [(11, .arr 3 1 (s640.1.length) (ei .i64 (s640.1))), (12, .arr 9 1 (s640.2.1.length) (es (s640.2.1)))]) 2 (fun n682 H => ?_)
  refine ⟨(n682, _), ⟨H⟩, ⟨trivial⟩, ?_⟩
  repeat refine mo1ZR1 ?_
  rintro ⟨m0, s640⟩ H _
  obtain ⟨m641, hm0, H⟩ := IG_succ H
  dsimp only at hm0
  subst hm0
  try dsimp only at H
  refine if_st H (fun h669 H => ?_) (fun h669 H => ?_)
  ·refine ob_app (by decide) (by first | exact ei_one | ((repeat (refine List.forall_mem_cons.2 ⟨rfl, ?_⟩)); intro y hy; cases hy; done) | (intro y hy; simp [ei, eb, es, ec, c133] at hy; (first | (rcases hy with rfl | hy) | subst hy | skip); all_goals first | rfl | simp_all [Value.oneCell'])) H fun h670 H => ?_
   intro n671 zs673 hn672 hz674
   obtain rfl : n671 = (s640.1 ++ [s640.2.2]).length := hn672.trans (by first | exact List.length_append.symm | (simp; done) | (simp; omega))
   obtain rfl : zs673 = ei .i64 (s640.1 ++ [s640.2.2]) := by first | exact hz674.trans (ei_app (xs := s640.1) (ys := ([s640.2.2]))).symm | (rw [hz674, ei_vw]; first | exact ei_app.symm | exact (ei_app (xs := s640.1)).symm) | (rw [hz674]; simp [ei, eb, es, ec, c133])
   refine ob_ix hR0_0 (fun h => es0 h) H fun h675 H => ?_
   refine ld_str (e := a0.1.getD s640.2.2.toNat default) (rd_get hR0_0 (es_get (l := a0.1) (tn h675))) ?_
   refine ob_app (by decide) (by first | exact es_one | ((repeat (refine List.forall_mem_cons.2 ⟨rfl, ?_⟩)); intro y hy; cases hy; done) | (intro y hy; simp [ei, eb, es, ec, c133] at hy; (first | (rcases hy with rfl | hy) | subst hy | skip); all_goals first | rfl | simp_all [Value.oneCell'])) H fun h676 H => ?_
   intro n677 zs679 hn678 hz680
   obtain rfl : n677 = (s640.2.1 ++ [a0.1.getD s640.2.2.toNat default]).length := hn678.trans (by first | exact List.length_append.symm | (simp; done) | (simp; omega))
   obtain rfl : zs679 = es (s640.2.1 ++ [a0.1.getD s640.2.2.toNat default]) := by first | exact hz680.trans (es_app (xs := s640.2.1) (ys := ([a0.1.getD s640.2.2.toNat default]))).symm | (rw [hz680, es_vw]; first | exact es_app.symm | exact (es_app (xs := s640.2.1)).symm) | (rw [hz680]; simp [ei, eb, es, ec, c133])
   refine ob_ck H fun h681 H => ?_
   replace H := some_st H
   refine ⟨(m641, ((s640.1 ++ [s640.2.2]), (s640.2.1 ++ [a0.1.getD s640.2.2.toNat default]), s640.2.2 - 1)), ⟨H, Nat.lt_succ_self _⟩, ⟨trivial⟩, ⟨rfl⟩, ?_⟩
   repeat refine mo1ZR1 ?_
   first | exact trivial | exact rfl
  ·replace H := some_st H
   dsimp only [stp, sm] at H
   refine ⟨(s640.1, s640.2.1), ⟨H⟩, ⟨rfl⟩, ?_⟩
   repeat refine mo1ZR1 ?_
   first | exact trivial | exact rfl
 ·intro v635 H
  intro q683 A684 c685 hq686 hc687 hR688
  replace hR688 : Reads q683 A684 (ei .i64 v635.1) := Eq.mp (congrArg (Reads q683 A684) (by first | exact rfl | (simp only [ei, eb, es, ec, c133, gmin, gmax, List.map_append, List.flatMap_append, List.nil_append, List.append_nil, List.append_assoc]; done))) hR688
  intro q689 A690 c691 hq692 hc693 hR694
  replace hR694 : Reads q689 A690 (es v635.2) := Eq.mp (congrArg (Reads q689 A690) (by first | exact rfl | (simp only [ei, eb, es, ec, c133, gmin, gmax, List.map_append, List.flatMap_append, List.nil_append, List.append_nil, List.append_assoc]; done))) hR694
  have hfin := fin_st H
  first | subst hfin | (replace hfin := hfin.symm; subst hfin) | (replace hfin := (show v635 = r from hfin).symm; subst hfin)
  refine ⟨((A684, c685), (A690, c691)), ⟨⟨hc687, hc693⟩⟩, ⟨⟨(Reads.mono hq692 hR688), hR694, trivial⟩⟩, ?_⟩
  repeat refine mo1ZR1 ?_
  first | exact trivial | exact rfl
end Go.Proofs.YtenjkphlbdhaiaaGreat
end
section
namespace Go.Proofs.YtenjkphlbdhaiaaGreat
open Go Go.Eng
theorem mo1ZR2 {p q : Prop} (k : q) (h : p := by first | exact rfl | exact Iff.rfl | exact ⟨rfl, rfl⟩ | exact decide_eq_true_iff | (constructor <;> first | exact rfl | (simp only [ei, eb, es, ec, c133, gmin, gmax, List.map_append, List.flatMap_append, List.nil_append, List.append_nil, List.append_assoc]; done) | omega | (simp only [List.nil_append, List.length_append, List.length_cons, List.length_nil]; omega) | (simp [ei, eb, es, ec, c133, gmin, gmax]; done)) | exact rfl | (simp only [ei, eb, es, ec, c133, gmin, gmax, List.map_append, List.flatMap_append, List.nil_append, List.append_nil, List.append_assoc]; done) | omega | (simp only [List.nil_append, List.length_append, List.length_cons, List.length_nil]; omega) | (simp [ei, eb, es, ec, c133, gmin, gmax]; done) | simp [ei, eb, es, ec, c133, gmin, gmax]) : Ob p ∧ q := ⟨⟨h⟩, k⟩
theorem mf1ZR2 {p q : Prop} (k : q) (h : p := by first | (rw [← hfin] <;> first | exact rfl | exact Iff.rfl | exact ⟨rfl, rfl⟩ | exact decide_eq_true_iff | (constructor <;> first | exact rfl | (simp only [ei, eb, es, ec, c133, gmin, gmax, List.map_append, List.flatMap_append, List.nil_append, List.append_nil, List.append_assoc]; done) | omega | (simp only [List.nil_append, List.length_append, List.length_cons, List.length_nil]; omega) | (simp [ei, eb, es, ec, c133, gmin, gmax]; done)) | exact rfl | (simp only [ei, eb, es, ec, c133, gmin, gmax, List.map_append, List.flatMap_append, List.nil_append, List.append_nil, List.append_assoc]; done) | omega | (simp only [List.nil_append, List.length_append, List.length_cons, List.length_nil]; omega) | (simp [ei, eb, es, ec, c133, gmin, gmax]; done) | simp [ei, eb, es, ec, c133, gmin, gmax]) | first | exact rfl | exact Iff.rfl | exact ⟨rfl, rfl⟩ | exact decide_eq_true_iff | (constructor <;> first | exact rfl | (simp only [ei, eb, es, ec, c133, gmin, gmax, List.map_append, List.flatMap_append, List.nil_append, List.append_nil, List.append_assoc]; done) | omega | (simp only [List.nil_append, List.length_append, List.length_cons, List.length_nil]; omega) | (simp [ei, eb, es, ec, c133, gmin, gmax]; done)) | exact rfl | (simp only [ei, eb, es, ec, c133, gmin, gmax, List.map_append, List.flatMap_append, List.nil_append, List.append_nil, List.append_assoc]; done) | omega | (simp only [List.nil_append, List.length_append, List.length_cons, List.length_nil]; omega) | (simp [ei, eb, es, ec, c133, gmin, gmax]; done) | simp [ei, eb, es, ec, c133, gmin, gmax]) : Ob p ∧ q := ⟨⟨h⟩, k⟩
noncomputable def g21 (a0 : (Int × List ByteArray × Int × Int)) (a1 : Int) (a2 : ByteArray) : Option (Int × (Int × List ByteArray × Int × Int)) :=
 (g39 (a0.1, a0.2.1, a0.2.2.1, a0.2.2.2)).bind fun v14 =>
 if ¬ (v14 = true) then
  some (4, (a0.1, a0.2.1, a0.2.2.1, a0.2.2.2))
 else
  (
   if a1 < 0 then
    some (5, (a0.1, a0.2.1, a0.2.2.1, a0.2.2.2))
   else
    (
     (g41 (a0.1, a0.2.1, a0.2.2.1, a0.2.2.2)).bind fun v18 =>
     if v18 ≤ a1 then
      some (5, (a0.1, a0.2.1, a0.2.2.1, a0.2.2.2))
     else
      (
       (g40 a2).bind fun v21 =>
       if ¬ (v21 = true) then
        some (1, (a0.1, a0.2.1, a0.2.2.1, a0.2.2.2))
       else
        (
         (g48 (a0.1, a0.2.1, a0.2.2.1, a0.2.2.2) a1).bind fun v24 =>
         ck (0 ≤ v24 ∧ v24 < ((a0.2.1.length : Nat) : Int)) <|
         some (0, (a0.1, (a0.2.1.set v24.toNat a2), a0.2.2.1, a0.2.2.2))
        )
      )
    )
  )
noncomputable def k21 : Eng.CS := { f := 21, calm := false, more := 3, ι := (Int × List ByteArray × Int × Int) × Int × ByteArray × (Int × (Int × List ByteArray × Int × Int)), ok := fun i => g21 i.1 i.2.1 i.2.2.1 = some i.2.2.2, rds := fun _ => [], args := fun i => [.w (.lp 0 0), .w (.v (.int .i64 (i.2.1))), .w (.v (.string (i.2.2.1)))], res := fun i => .v (.int .i64 (i.2.2.2.1)), L' := fun i => [(0, .cells 41 [.v (.int .i64 (i.2.2.2.2.1)), .own 2, .v (.int .i64 (i.2.2.2.2.2.2.1)), .v (.int .i64 (i.2.2.2.2.2.2.2))]), (2, .arr 9 1 i.2.2.2.2.2.1.length (es i.2.2.2.2.2.1))], rn := [(100000, 1, 9, 1)], keys := 2, L := fun i => [(0, .cells 41 [.v (.int .i64 (i.1.1)), .own 1, .v (.int .i64 (i.1.2.2.1)), .v (.int .i64 (i.1.2.2.2))]), (1, .arr 9 1 i.1.2.1.length (es i.1.2.1))] }
set_option maxRecDepth 8000 in
set_option maxHeartbeats 4000000 in
theorem k21_ok : CSOk Tryz.prog k21 := by
 refine R.cspec Tryz.func21 nm21 rfl ?_
 rintro ⟨a0, a1, a2, r⟩ hok q _ args hargs
 dsimp only [k21] at hargs ⊢
 match args, hargs with
 | [_, _, _], hargs =>
 obtain ⟨rfl, rfl, rfl, _⟩ := hargs
 refine ⟨envC [k39, k40, k41, k48] false [], 6, envC_ok (css_cons ⟨fun _ => k39_ok, fun h => (by cases h)⟩ (css_cons ⟨fun _ => k40_ok, fun h => (by cases h)⟩ (css_cons ⟨fun _ => k41_ok, fun h => (by cases h)⟩ (css_cons ⟨fun _ => k48_ok, fun h => (by cases h)⟩ (css_nil))))), ?_⟩
 have H : Gives (g21 a0 a1 a2) (fun a => a = r) := ⟨r, hok, rfl⟩
 unfold g21 at H
 clear hok
 obtain ⟨v14, hv15, H⟩ := call_st H
 refine ⟨((a0.1, a0.2.1, a0.2.2.1, a0.2.2.2), v14), ⟨hv15⟩, ⟨trivial⟩, ?_⟩
 iterate 4 refine mo1ZR2 ?_
 refine if_st H (fun h16 H => ?_) (fun h16 H => ?_)
 ·have hfin := fin_st H
  repeat refine mf1ZR2 ?_
  first | exact trivial | exact rfl
 ·refine if_st H (fun h17 H => ?_) (fun h17 H => ?_)
  ·have hfin := fin_st H
   repeat refine mf1ZR2 ?_
   first | exact trivial | exact rfl
  ·obtain ⟨v18, hv19, H⟩ := call_st H
   refine ⟨((a0.1, a0.2.1, a0.2.2.1, a0.2.2.2), v18), ⟨hv19⟩, ⟨trivial⟩, ?_⟩
   iterate 4 refine mo1ZR2 ?_
   refine if_st H (fun h20 H => ?_) (fun h20 H => ?_)
   ·have hfin := fin_st H
    repeat refine mf1ZR2 ?_
    first | exact trivial | exact rfl
   ·obtain ⟨v21, hv22, H⟩ := call_st H
    refine ⟨(a2, v21), ⟨hv22⟩, ⟨trivial⟩, ?_⟩
    refine And.intro ⟨rfl⟩ ?_
    refine if_st H (fun h23 H => ?_) (fun h23 H => ?_)
    ·have hfin := fin_st H
     repeat refine mf1ZR2 ?_
     first | exact trivial | exact rfl
    ·refine And.intro ⟨by kernel_rfl⟩ ?_
     refine ⟨(Pn.calm 0 (Pn.calm 1 (Pn.calm 2 (Pn.calm 3 (Pn.calm 4 (Pn.calm 5 (Pn.calm 6 (Pn.calm 7 (Pn.calm 8 (Pn.eff 9 [8, 7, 6, 0, 1, 2, 3, 4, 5] Pn.done Pn.no)))))))))), ⟨by kernel_rfl⟩, ?_⟩
     obtain ⟨v24, hv25, H⟩ := call_st H
     refine ⟨((a0.1, a0.2.1, a0.2.2.1, a0.2.2.2), a1, v24), ⟨hv25⟩, ⟨trivial⟩, ?_⟩
     iterate 4 refine mo1ZR2 ?_
     refine And.intro ⟨rfl⟩ ?_
     refine ob_ck H fun h26 H => ?_
     refine And.intro ?_ trivial
     refine And.intro ⟨by first | (have := tn h26; simp [ei, eb, es, ec, c133] at this ⊢; omega) | (have := tn h26; simp [ei, eb, es, ec, c133]; omega)⟩ ?_
     intro n27 zs29 hn28 hz30
     subst hn28
     have hl31 : (a0.2.1.set v24.toNat a2).length = a0.2.1.length := List.length_set
     obtain rfl : zs29 = es (a0.2.1.set v24.toNat a2) := hz30.trans es_set.symm
     refine And.intro ⟨fun _ _ _ h => h⟩ ?_
     have hfin := fin_st H
     repeat refine mf1ZR2 ?_
     first | exact trivial | exact rfl
noncomputable def g13 (a0 : (Int × List ByteArray × Int × Int)) (a1 : Int) (a2 : Int) : Option (List ByteArray × (Int × List ByteArray × Int × Int)) :=
 (g39 (a0.1, a0.2.1, a0.2.2.1, a0.2.2.2)).bind fun v35 =>
 if ¬ (v35 = true) then
  some (([] : List ByteArray), (a0.1, a0.2.1, a0.2.2.1, a0.2.2.2))
 else
  (
   (g43 (a0.1, a0.2.1, a0.2.2.1, a0.2.2.2) a1).bind fun v38 =>
   (g43 (a0.1, a0.2.1, a0.2.2.1, a0.2.2.2) a2).bind fun v40 =>
   if v40 ≤ v38 then
    some (([] : List ByteArray), (a0.1, a0.2.1, a0.2.2.1, a0.2.2.2))
   else
    (
     (g34 (a0.1, a0.2.1, a0.2.2.1, a0.2.2.2)).bind fun v44 =>
     ck (0 ≤ v38 ∧ v38 ≤ v40 ∧ v40 ≤ v40 ∧ v40 ≤ ((v44.length : Nat) : Int)) <|
     (g11 (a0.1, a0.2.1, a0.2.2.1, a0.2.2.2) v38).bind fun v49 =>
     ck (inR .i64 (v40 - v38)) <|
     ck (inR .i64 (v49.2.2.2.2 + (v40 - v38))) <|
     if v40 ≤ a0.2.2.1 then
      (
       ck (inR .i64 (v40 - v38)) <|
       ck (inR .i64 (a0.2.2.1 - (v40 - v38))) <|
       (g11 (v49.2.1, v49.2.2.1, v49.2.2.2.1, v49.2.2.2.2 + (v40 - v38)) (a0.2.2.1 - (v40 - v38))).bind fun v64 =>
       some (((v44.drop v38.toNat).take (v40.toNat - v38.toNat)), (v64.2.1, v64.2.2.1, v64.2.2.2.1, v64.2.2.2.2))
      )
     else
      (
       if a0.2.2.1 < v38 then
        (
         (g11 (v49.2.1, v49.2.2.1, v49.2.2.2.1, v49.2.2.2.2 + (v40 - v38)) a0.2.2.1).bind fun v79 =>
         some (((v44.drop v38.toNat).take (v40.toNat - v38.toNat)), (v79.2.1, v79.2.2.1, v79.2.2.2.1, v79.2.2.2.2))
        )
       else
        some (((v44.drop v38.toNat).take (v40.toNat - v38.toNat)), (v49.2.1, v49.2.2.1, v49.2.2.2.1, v49.2.2.2.2 + (v40 - v38)))
      )
    )
  )
noncomputable def k13 : Eng.CS := { f := 13, calm := false, more := 3, ι := (Int × List ByteArray × Int × Int) × Int × Int × (List ByteArray × (Int × List ByteArray × Int × Int)), ok := fun i => g13 i.1 i.2.1 i.2.2.1 = some i.2.2.2, rds := fun _ => [], args := fun i => [.w (.lp 0 0), .w (.v (.int .i64 (i.2.1))), .w (.v (.int .i64 (i.2.2.1)))], res := fun _ => .bad, rn := [(100000, 1, 9, 1)], keys := 2, L := fun i => [(0, .cells 41 [.v (.int .i64 (i.1.1)), .own 1, .v (.int .i64 (i.1.2.2.1)), .v (.int .i64 (i.1.2.2.2))]), (1, .arr 9 1 i.1.2.1.length (es i.1.2.1))], gr := true, γ := (Option Addr × Nat), resG := fun i g => .v (.slice g.1 i.2.2.2.1.length g.2), LG := fun i _ => [(0, .cells 41 [.v (.int .i64 (i.2.2.2.2.1)), .own 2, .v (.int .i64 (i.2.2.2.2.2.2.1)), .v (.int .i64 (i.2.2.2.2.2.2.2))]), (2, .arr 9 1 i.2.2.2.2.2.1.length (es i.2.2.2.2.2.1))], okG := fun i g => i.2.2.2.1.length ≤ g.2, rdsG := fun i g => [(g.1, es i.2.2.2.1)], fzr := [(0, 0)] }
set_option maxRecDepth 8000 in
set_option maxHeartbeats 4000000 in
theorem k13_ok : CSOk Tryz.prog k13 := by
 refine R.cspecG Tryz.func13 nm13 rfl rfl (fun _ => rfl) ?_
 rintro ⟨a0, a1, a2, r⟩ hok q hrds args hargs
 dsimp only [k13] at hargs ⊢
 match args, hargs with
 | [_, _, _], hargs =>
 obtain ⟨rfl, rfl, rfl, _⟩ := hargs
 refine ⟨envC [k11, k34, k39, k43] false [], 6, envC_ok (css_cons ⟨fun h => (by cases h), fun _ => k11_ok⟩ (css_cons ⟨fun h => (by cases h), fun _ => k34_ok⟩ (css_cons ⟨fun _ => k39_ok, fun h => (by cases h)⟩ (css_cons ⟨fun _ => k43_ok, fun h => (by cases h)⟩ (css_nil))))), ?_⟩
 have H : Gives (g13 a0 a1 a2) (fun a => a = r) := ⟨r, hok, rfl⟩
 unfold g13 at H
 clear hok
 obtain ⟨v35, hv36, H⟩ := call_st H
 refine ⟨((a0.1, a0.2.1, a0.2.2.1, a0.2.2.2), v35), ⟨hv36⟩, ⟨trivial⟩, ?_⟩
 iterate 4 refine mo1ZR2 ?_
 refine if_st H (fun h37 H => ?_) (fun h37 H => ?_)
 ·have hfin := fin_st H
  first | subst hfin | (replace hfin := hfin.symm; subst hfin)
  refine ⟨(none, 0), ⟨Nat.le_refl _⟩, ⟨⟨Reads.nil, trivial⟩⟩, ?_⟩
  repeat refine mo1ZR2 ?_
  first | exact trivial | exact rfl
 ·obtain ⟨v38, hv39, H⟩ := call_st H
  refine ⟨((a0.1, a0.2.1, a0.2.2.1, a0.2.2.2), a1, v38), ⟨hv39⟩, ⟨trivial⟩, ?_⟩
  iterate 4 refine mo1ZR2 ?_
  refine And.intro ⟨rfl⟩ ?_
  obtain ⟨v40, hv41, H⟩ := call_st H
  refine ⟨((a0.1, a0.2.1, a0.2.2.1, a0.2.2.2), a2, v40), ⟨hv41⟩, ⟨trivial⟩, ?_⟩
  iterate 4 refine mo1ZR2 ?_
  refine And.intro ⟨rfl⟩ ?_
  refine if_st H (fun h43 H => ?_) (fun h43 H => ?_)
  ·have hfin := fin_st H
   first | subst hfin | (replace hfin := hfin.symm; subst hfin)
   refine ⟨(none, 0), ⟨Nat.le_refl _⟩, ⟨⟨Reads.nil, trivial⟩⟩, ?_⟩
   repeat refine mo1ZR2 ?_
   first | exact trivial | exact rfl
  ·obtain ⟨v44, hv45, H⟩ := call_st H
   refine ⟨((a0.1, a0.2.1, a0.2.2.1, a0.2.2.2), v44), ⟨hv45⟩, ⟨trivial⟩, ?_⟩
   iterate 4 refine mo1ZR2 ?_
   refine ob_ck H fun h46 H => ?_
   try dsimp only at h46
   intro n47 hn48
   subst hn48
   obtain ⟨v49, hv50, H⟩ := call_st H
   refine ⟨((a0.1, a0.2.1, a0.2.2.1, a0.2.2.2), v38, v49), ⟨hv50⟩, ⟨trivial⟩, ?_⟩
   iterate 2 refine And.intro ⟨rfl⟩ ?_
   iterate 4 refine mo1ZR2 ?_
   refine ob_ck H fun h51 H => ?_
   refine ob_ck H fun h52 H => ?_
   refine if_st H (fun h61 H => ?_) (fun h61 H => ?_)
   ·refine ob_ck H fun h62 H => ?_
    refine ob_ck H fun h63 H => ?_
    obtain ⟨v64, hv65, H⟩ := call_st H
    refine ⟨((v49.2.1, v49.2.2.1, v49.2.2.2.1, v49.2.2.2.2 + (v40 - v38)), a0.2.2.1 - (v40 - v38), v64), ⟨hv65⟩, ⟨trivial⟩, ?_⟩
    iterate 2 refine And.intro ⟨rfl⟩ ?_
    iterate 4 refine mo1ZR2 ?_
    refine And.intro ⟨by first | omega | (dsimp only; omega)⟩ ?_
    intro q66 A67 c68 A72 c73 n76 hq69 hc74 hR75 hn77 hc70 hR71
    obtain rfl : n76 = ((v44.drop v38.toNat).take (v40.toNat - v38.toNat)).length := hn77.trans (len_vw (by first | omega | (dsimp only; omega) | (dsimp only at *; omega))).symm
    rw [es_vw] at hR71
    have hfin := fin_st H
    first | subst hfin | (replace hfin := hfin.symm; subst hfin)
    refine ⟨(A67, c68), ⟨hc70⟩, ⟨⟨hR71, trivial⟩⟩, ?_⟩
    repeat refine mo1ZR2 ?_
    first | exact trivial | exact rfl
   ·refine if_st H (fun h78 H => ?_) (fun h78 H => ?_)
    ·obtain ⟨v79, hv80, H⟩ := call_st H
     refine ⟨((v49.2.1, v49.2.2.1, v49.2.2.2.1, v49.2.2.2.2 + (v40 - v38)), a0.2.2.1, v79), ⟨hv80⟩, ⟨trivial⟩, ?_⟩
     iterate 2 refine And.intro ⟨rfl⟩ ?_
     iterate 4 refine mo1ZR2 ?_
     refine And.intro ⟨by first | omega | (dsimp only; omega)⟩ ?_
     intro q81 A82 c83 A87 c88 n91 hq84 hc89 hR90 hn92 hc85 hR86
     obtain rfl : n91 = ((v44.drop v38.toNat).take (v40.toNat - v38.toNat)).length := hn92.trans (len_vw (by first | omega | (dsimp only; omega) | (dsimp only at *; omega))).symm
     rw [es_vw] at hR86
     have hfin := fin_st H
     first | subst hfin | (replace hfin := hfin.symm; subst hfin)
     refine ⟨(A82, c83), ⟨hc85⟩, ⟨⟨hR86, trivial⟩⟩, ?_⟩
     repeat refine mo1ZR2 ?_
     first | exact trivial | exact rfl
    ·refine And.intro ⟨by first | omega | (dsimp only; omega)⟩ ?_
     intro q93 A94 c95 A99 c100 n103 hq96 hc101 hR102 hn104 hc97 hR98
     obtain rfl : n103 = ((v44.drop v38.toNat).take (v40.toNat - v38.toNat)).length := hn104.trans (len_vw (by first | omega | (dsimp only; omega) | (dsimp only at *; omega))).symm
     rw [es_vw] at hR98
     have hfin := fin_st H
     first | subst hfin | (replace hfin := hfin.symm; subst hfin)
     refine ⟨(A94, c95), ⟨hc97⟩, ⟨⟨hR98, trivial⟩⟩, ?_⟩
     repeat refine mo1ZR2 ?_
     first | exact trivial | exact rfl
end Go.Proofs.YtenjkphlbdhaiaaGreat
end
section
namespace Go.Proofs.YtenjkphlbdhaiaaGreat
open Go Go.Eng
theorem mo1ZR3 {p q : Prop} (k : q) (h : p := by first | exact rfl | exact Iff.rfl | exact ⟨rfl, rfl⟩ | exact decide_eq_true_iff | (constructor <;> first | exact rfl | (simp only [ei, eb, es, ec, c133, gmin, gmax, List.map_append, List.flatMap_append, List.nil_append, List.append_nil, List.append_assoc]; done) | omega | (simp only [List.nil_append, List.length_append, List.length_cons, List.length_nil]; omega) | (simp [ei, eb, es, ec, c133, gmin, gmax]; done)) | exact rfl | (simp only [ei, eb, es, ec, c133, gmin, gmax, List.map_append, List.flatMap_append, List.nil_append, List.append_nil, List.append_assoc]; done) | omega | (simp only [List.nil_append, List.length_append, List.length_cons, List.length_nil]; omega) | (simp [ei, eb, es, ec, c133, gmin, gmax]; done) | simp [ei, eb, es, ec, c133, gmin, gmax]) : Ob p ∧ q := ⟨⟨h⟩, k⟩
noncomputable def g9 (a0 : (Int × List ByteArray × Int × Int)) (a1 : (List ByteArray × Int × Int)) (a2 : Int) (a3 : Int) : Option (Bool × (Int × List ByteArray × Int × Int)) :=
 (g26 (a0.1, a0.2.1, a0.2.2.1, a0.2.2.2) a2).bind fun v1 =>
 (g27 (a1.1, a1.2.1, a1.2.2) a2).bind fun v3 =>
 jn (α := _) (β := List Int × List ByteArray) (fun k183 =>
   (g34 (a0.1, a0.2.1, a0.2.2.1, a0.2.2.2)).bind fun v184 =>
   (loopO (σ := List Int × List ByteArray × Int) (ρ := (List Int × List ByteArray) ⊕ (List Int × List ByteArray)) (fun s188 =>
     if s188.2.2 < ((v184.length : Nat) : Int) then
      (
       ck (0 ≤ s188.2.2 ∧ s188.2.2 < ((v184.length : Nat) : Int)) <|
       if a3 ≤ ((s188.1.length : Nat) : Int) then
        some (.out (.inl ((s188.1, s188.2.1))))
       else
        (
         ck ((s188.1.length + 1) * 8 ≤ 140737488355328) <|
         ck ((s188.2.1.length + 1) * 16 ≤ 140737488355328) <|
         ck (inR .i64 (s188.2.2 + 1)) <|
         some (.go ((s188.1 ++ [s188.2.2]), (s188.2.1 ++ [v184.getD s188.2.2.toNat default]), s188.2.2 + 1))
        )
      )
     else
      some (.out (.inr ((s188.1, s188.2.1))))
    ) ([], [], 0)).bind fun o218 =>
   sm o218 (fun o233 =>
     k183 (o233.1, o233.2)
    ) (fun o234 =>
     k183 (o234.1, o234.2)
    )
 ) (fun v182 =>
  jn (α := _) (β := List Int × List ByteArray) (fun k417 =>
    (g34 (a0.1, a0.2.1, a0.2.2.1, a0.2.2.2)).bind fun v418 =>
    (g14 (a0.1, a0.2.1, a0.2.2.1, a0.2.2.2)).bind fun v420 =>
    ck (inR .i64 (v420 - 1)) <|
    (loopO (σ := List Int × List ByteArray × Int) (ρ := (List Int × List ByteArray) ⊕ (List Int × List ByteArray)) (fun s425 =>
      if 0 ≤ s425.2.2 then
       (
        ck (0 ≤ s425.2.2 ∧ s425.2.2 < ((v418.length : Nat) : Int)) <|
        if a3 ≤ ((s425.1.length : Nat) : Int) then
         some (.out (.inl ((s425.1, s425.2.1))))
        else
         (
          ck ((s425.1.length + 1) * 8 ≤ 140737488355328) <|
          ck ((s425.2.1.length + 1) * 16 ≤ 140737488355328) <|
          ck (inR .i64 (s425.2.2 - 1)) <|
          some (.go ((s425.1 ++ [s425.2.2]), (s425.2.1 ++ [v418.getD s425.2.2.toNat default]), s425.2.2 - 1))
         )
       )
      else
       some (.out (.inr ((s425.1, s425.2.1))))
     ) ([], [], v420 - 1)).bind fun o455 =>
    sm o455 (fun o470 =>
      k417 (o470.1, o470.2)
     ) (fun o471 =>
      k417 (o471.1, o471.2)
     )
  ) (fun v416 =>
   (g31 (a1.1, a1.2.1, a1.2.2)).bind fun v473 =>
   if ¬ (v1.1.data.toList = v3.1.data.toList) then
    some (false, (a0.1, a0.2.1, a0.2.2.1, a0.2.2.2))
   else
    (
     if ¬ ((v1.2 = true) ↔ (v3.2 = true)) then
      some (false, (a0.1, a0.2.1, a0.2.2.1, a0.2.2.2))
     else
      (
       (g33 (gmin a3 ((a1.1.length : Nat) : Int))).bind fun v545 =>
       (g32 v182.1 v545).bind fun v547 =>
       if ¬ (v547 = true) then
        some (false, (a0.1, a0.2.1, a0.2.2.1, a0.2.2.2))
       else
        (
         ck (0 ≤ (0 : Int) ∧ (0 : Int) ≤ gmin a3 ((a1.1.length : Nat) : Int) ∧ gmin a3 ((a1.1.length : Nat) : Int) ≤ ((a1.1.length : Nat) : Int)) <|
         (g20 v182.2 ((a1.1.drop (0 : Int).toNat).take ((gmin a3 ((a1.1.length : Nat) : Int)).toNat - (0 : Int).toNat))).bind fun v554 =>
         if ¬ (v554 = true) then
          some (false, (a0.1, a0.2.1, a0.2.2.1, a0.2.2.2))
         else
          (
           ck (0 ≤ (0 : Int) ∧ (0 : Int) ≤ gmin a3 ((v473.1.length : Nat) : Int) ∧ gmin a3 ((v473.1.length : Nat) : Int) ≤ ((v473.1.length : Nat) : Int)) <|
           (g32 v416.1 ((v473.1.drop (0 : Int).toNat).take ((gmin a3 ((v473.1.length : Nat) : Int)).toNat - (0 : Int).toNat))).bind fun v561 =>
           if ¬ (v561 = true) then
            some (false, (a0.1, a0.2.1, a0.2.2.1, a0.2.2.2))
           else
            (
             ck (0 ≤ (0 : Int) ∧ (0 : Int) ≤ gmin a3 ((v473.1.length : Nat) : Int) ∧ gmin a3 ((v473.1.length : Nat) : Int) ≤ ((v473.2.length : Nat) : Int)) <|
             (g20 v416.2 ((v473.2.drop (0 : Int).toNat).take ((gmin a3 ((v473.1.length : Nat) : Int)).toNat - (0 : Int).toNat))).bind fun v568 =>
             if ¬ (v568 = true) then
              some (false, (a0.1, a0.2.1, a0.2.2.1, a0.2.2.2))
             else
              (
               (g34 (a0.1, a0.2.1, a0.2.2.1, a0.2.2.2)).bind fun v571 =>
               (g20 v571 a1.1).bind fun v573 =>
               if v573 = true then
                (
                 (g12 (a0.1, a0.2.1, a0.2.2.1, a0.2.2.2)).bind fun v576 =>
                 (g35 (a1.1, a1.2.1, a1.2.2)).bind fun v578 =>
                 if v576.data.toList = v578.data.toList then
                  (
                   (g36 (a0.1, a0.2.1, a0.2.2.1, a0.2.2.2)).bind fun v586 =>
                   (g37 (a1.1, a1.2.1, a1.2.2)).bind fun v588 =>
                   (g32 v586 v588).bind fun v599 =>
                   if v599 = true then
                    (
                     (g14 (a0.1, a0.2.1, a0.2.2.1, a0.2.2.2)).bind fun v602 =>
                     if v602 = a1.2.1 then
                      (
                       (g16 (a0.1, a0.2.1, a0.2.2.1, a0.2.2.2)).bind fun v605 =>
                       if v605 = ((a1.1.length : Nat) : Int) then
                        (
                         (g38 (a0.1, a0.2.1, a0.2.2.1, a0.2.2.2)).bind fun v608 =>
                         ck (inR .i64 (a1.2.2 - ((a1.1.length : Nat) : Int))) <|
                         some ((decide (v608 = (a1.2.2 - ((a1.1.length : Nat) : Int)))), (a0.1, a0.2.1, a0.2.2.1, a0.2.2.2))
                        )
                       else
                        some (false, (a0.1, a0.2.1, a0.2.2.1, a0.2.2.2))
                      )
                     else
                      some (false, (a0.1, a0.2.1, a0.2.2.1, a0.2.2.2))
                    )
                   else
                    some (false, (a0.1, a0.2.1, a0.2.2.1, a0.2.2.2))
                  )
                 else
                  some (false, (a0.1, a0.2.1, a0.2.2.1, a0.2.2.2))
                )
               else
                some (false, (a0.1, a0.2.1, a0.2.2.1, a0.2.2.2))
              )
            )
          )
        )
      )
    )
  )
 )
noncomputable def k9 : Eng.CS := { f := 9, calm := false, more := 3, ι := (Int × List ByteArray × Int × Int) × (List ByteArray × Int × Int) × Int × Int × (Bool × (Int × List ByteArray × Int × Int)) × ((Option Addr × Nat)), ok := fun i => g9 i.1 i.2.1 i.2.2.1 i.2.2.2.1 = some i.2.2.2.2.1 ∧ i.2.1.1.length ≤ i.2.2.2.2.2.2, rds := fun i => [(i.2.2.2.2.2.1, es i.2.1.1)], args := fun i => [.w (.lp 0 0), .w (.agg [.v (.slice i.2.2.2.2.2.1 i.2.1.1.length i.2.2.2.2.2.2), .v (.int .i64 (i.2.1.2.1)), .v (.int .i64 (i.2.1.2.2))]), .w (.v (.int .i64 (i.2.2.1))), .w (.v (.int .i64 (i.2.2.2.1)))], res := fun _ => .bad, rn := [(100000, 1, 9, 1)], keys := 2, L := fun i => [(0, .cells 41 [.v (.int .i64 (i.1.1)), .own 1, .v (.int .i64 (i.1.2.2.1)), .v (.int .i64 (i.1.2.2.2))]), (1, .arr 9 1 i.1.2.1.length (es i.1.2.1))], gr := true, γ := Unit, resG := fun i _ => bS i.2.2.2.2.1.1, LG := fun i _ => [(0, .cells 41 [.v (.int .i64 (i.2.2.2.2.1.2.1)), .own 2, .v (.int .i64 (i.2.2.2.2.1.2.2.2.1)), .v (.int .i64 (i.2.2.2.2.1.2.2.2.2))]), (2, .arr 9 1 i.2.2.2.2.1.2.2.1.length (es i.2.2.2.2.1.2.2.1))], okG := fun i _ => True, rdsG := fun i _ => [], fzr := [] }
set_option maxRecDepth 8000 in
set_option maxHeartbeats 4000000 in
theorem k9_ok : CSOk Tryz.prog k9 := by
 refine R.cspecG Tryz.func9 nm9 rfl rfl (fun _ => rfl) ?_
 rintro ⟨a0, a1, a2, a3, r, ⟨A1_0, cp1_0⟩⟩ ⟨hok, hc1_0⟩ q hrds args hargs
 obtain ⟨hR1_0, _⟩ := hrds
 dsimp only at hR1_0 hc1_0
 dsimp only [k9] at hargs ⊢
 match args, hargs with
 | [_, _, _, _], hargs =>
 obtain ⟨rfl, rfl, rfl, rfl, _⟩ := hargs
 refine ⟨envC [k12, k14, k16, k20, k26, k27, k31, k32, k33, k34, k35, k36, k37, k38] false [(28, 11)], 6, envC_ok (css_cons ⟨fun _ => k12_ok, fun h => (by cases h)⟩ (css_cons ⟨fun _ => k14_ok, fun h => (by cases h)⟩ (css_cons ⟨fun _ => k16_ok, fun h => (by cases h)⟩ (css_cons ⟨fun _ => k20_ok, fun h => (by cases h)⟩ (css_cons ⟨fun _ => k26_ok, fun h => (by cases h)⟩ (css_cons ⟨fun h => (by cases h), fun _ => k27_ok⟩ (css_cons ⟨fun h => (by cases h), fun _ => k31_ok⟩ (css_cons ⟨fun _ => k32_ok, fun h => (by cases h)⟩ (css_cons ⟨fun h => (by cases h), fun _ => k33_ok⟩ (css_cons ⟨fun h => (by cases h), fun _ => k34_ok⟩ (css_cons ⟨fun h => (by cases h), fun _ => k35_ok⟩ (css_cons ⟨fun h => (by cases h), fun _ => k36_ok⟩ (css_cons ⟨fun h => (by cases h), fun _ => k37_ok⟩ (css_cons ⟨fun _ => k38_ok, fun h => (by cases h)⟩ (css_nil))))))))))))))), ?_⟩
 have H : Gives (g9 a0 a1 a2 a3) (fun a => a = r) := ⟨r, hok, rfl⟩
 unfold g9 at H
 clear hok
 obtain ⟨v1, hv2, H⟩ := call_st H
 refine ⟨((a0.1, a0.2.1, a0.2.2.1, a0.2.2.2), a2, v1), ⟨hv2⟩, ⟨trivial⟩, ?_⟩
 iterate 4 refine mo1ZR3 ?_
 refine And.intro ⟨rfl⟩ ?_
 obtain ⟨v3, hv4, H⟩ := call_st H
 refine ⟨((a1.1, a1.2.1, a1.2.2), a2, v3, (A1_0, cp1_0)), ⟨hv4, hc1_0⟩, ⟨⟨hR1_0, trivial⟩⟩, ?_⟩
 iterate 4 refine And.intro ⟨rfl⟩ ?_
 intro q5 g6 hq7 hok8 hrd9
 refine R.cut_fam H 76 [7, 8] [] (fun v182 => []) (fun v182 => [(41, .cells 63 [.own 76]), (42, .cells 27 [.own 77]), (76, .arr 3 1 (v182.1.length) (ei .i64 (v182.1))), (77, .arr 9 1 (v182.2.length) (es (v182.2)))]) [(0, .cells 41 [.v (.int .i64 (a0.1)), .own 1, .v (.int .i64 (a0.2.2.1)), .v (.int .i64 (a0.2.2.2))]), (1, .arr 9 1 (a0.2.1.length) (es (a0.2.1))), (2, .cells 29 [.v (.slice (A1_0) (a1.1.length) (cp1_0)), .v (.int .i64 (a1.2.1)), .v (.int .i64 (a1.2.2))]), (31, .cells 23 [.lp 0 0]), (35, .cells 3 [.v (.int .i64 (a3))])] 2 (fun H => ?_)
 refine And.intro ?_ ?_
 ·obtain ⟨v184, hv185, H⟩ := call_st H
  refine ⟨((a0.1, a0.2.1, a0.2.2.1, a0.2.2.2), v184), ⟨hv185⟩, ⟨trivial⟩, ?_⟩
  iterate 4 refine mo1ZR3 ?_
  refine R.loop_fam (bind_st H) [0, 6, 7] [(100041, 0, 3, 1), (100042, 0, 9, 1)] (fun _ s188 => [(8, .v (.int .i64 (s188.2.2)))]) (fun _ s188 => [(41, .cells 63 [.own 53]), (42, .cells 27 [.own 54]), (53, .arr 3 1 (s188.1.length) (ei .i64 (s188.1))), (54, .arr 9 1 (s188.2.1.length) (es (s188.2.1)))]) 2 (fun n235 H => ?_)
  refine ⟨(n235, _), ⟨H⟩, ⟨trivial⟩, ?_⟩
  repeat refine mo1ZR3 ?_
  rintro ⟨m0, s188⟩ H _
  obtain ⟨m189, hm0, H⟩ := IG_succ H
  dsimp only at hm0
  subst hm0
  try dsimp only at H
  refine if_st H (fun h219 H => ?_) (fun h219 H => ?_)
  ·refine ob_ck H fun h220 H => ?_
   refine ld_str (e := v184.getD s188.2.2.toNat default) (own_get (ys := es v184) (by first | rfl | simp [ei, eb, es, ec, c133]) (es_get (l := v184) (by first | exact tn h220 | (have := tn h220; simp at this ⊢; omega) | (have := tn h220; simp; omega)))) ?_
   refine if_st H (fun h221 H => ?_) (fun h221 H => ?_)
   ·replace H := some_st H
    dsimp only [stp, sm] at H
    refine ⟨(s188.1, s188.2.1), ⟨H⟩, ⟨rfl⟩, ?_⟩
    repeat refine mo1ZR3 ?_
    first | exact trivial | exact rfl
   ·refine ob_app (by decide) (by first | exact ei_one | ((repeat (refine List.forall_mem_cons.2 ⟨rfl, ?_⟩)); intro y hy; cases hy; done) | (intro y hy; simp [ei, eb, es, ec, c133] at hy; (first | (rcases hy with rfl | hy) | subst hy | skip); all_goals first | rfl | simp_all [Value.oneCell'])) H fun h222 H => ?_
    intro n223 zs225 hn224 hz226
    obtain rfl : n223 = (s188.1 ++ [s188.2.2]).length := hn224.trans (by first | exact List.length_append.symm | (simp; done) | (simp; omega))
    obtain rfl : zs225 = ei .i64 (s188.1 ++ [s188.2.2]) := by first | exact hz226.trans (ei_app (xs := s188.1) (ys := ([s188.2.2]))).symm | (rw [hz226, ei_vw]; first | exact ei_app.symm | exact (ei_app (xs := s188.1)).symm) | (rw [hz226]; simp [ei, eb, es, ec, c133])
    refine ob_app (by decide) (by first | exact es_one | ((repeat (refine List.forall_mem_cons.2 ⟨rfl, ?_⟩)); intro y hy; cases hy; done) | (intro y hy; simp [ei, eb, es, ec, c133] at hy; (first | (rcases hy with rfl | hy) | subst hy | skip); all_goals first | rfl | simp_all [Value.oneCell'])) H fun h227 H => ?_
    intro n228 zs230 hn229 hz231
    obtain rfl : n228 = (s188.2.1 ++ [v184.getD s188.2.2.toNat default]).length := hn229.trans (by first | exact List.length_append.symm | (simp; done) | (simp; omega))
    obtain rfl : zs230 = es (s188.2.1 ++ [v184.getD s188.2.2.toNat default]) := by first | exact hz231.trans (es_app (xs := s188.2.1) (ys := ([v184.getD s188.2.2.toNat default]))).symm | (rw [hz231, es_vw]; first | exact es_app.symm | exact (es_app (xs := s188.2.1)).symm) | (rw [hz231]; simp [ei, eb, es, ec, c133])
    refine ob_ck H fun h232 H => ?_
    replace H := some_st H
    refine ⟨(m189, ((s188.1 ++ [s188.2.2]), (s188.2.1 ++ [v184.getD s188.2.2.toNat default]), s188.2.2 + 1)), ⟨H, Nat.lt_succ_self _⟩, ⟨trivial⟩, ⟨rfl⟩, ?_⟩
    repeat refine mo1ZR3 ?_
    first | exact trivial | exact rfl
  ·replace H := some_st H
   dsimp only [stp, sm] at H
   refine ⟨(s188.1, s188.2.1), ⟨H⟩, ⟨rfl⟩, ?_⟩
   repeat refine mo1ZR3 ?_
   first | exact trivial | exact rfl
 ·intro v182 H
  refine And.intro ⟨by kernel_rfl⟩ ?_
  refine R.cut_fam H 141 [7, 8] [] (fun v416 => []) (fun v416 => [(104, .cells 63 [.own 141]), (105, .cells 27 [.own 142]), (141, .arr 3 1 (v416.1.length) (ei .i64 (v416.1))), (142, .arr 9 1 (v416.2.length) (es (v416.2)))]) [(41, .cells 63 [.own 76]), (42, .cells 27 [.own 77]), (76, .arr 3 1 (v182.1.length) (ei .i64 (v182.1))), (77, .arr 9 1 (v182.2.length) (es (v182.2))), (0, .cells 41 [.v (.int .i64 (a0.1)), .own 1, .v (.int .i64 (a0.2.2.1)), .v (.int .i64 (a0.2.2.2))]), (1, .arr 9 1 (a0.2.1.length) (es (a0.2.1))), (2, .cells 29 [.v (.slice (A1_0) (a1.1.length) (cp1_0)), .v (.int .i64 (a1.2.1)), .v (.int .i64 (a1.2.2))]), (31, .cells 23 [.lp 0 0]), (35, .cells 3 [.v (.int .i64 (a3))]), (94, .cells 23 [.lp 0 0]), (98, .cells 3 [.v (.int .i64 (a3))])] 2 (fun H => ?_)
  refine And.intro ?_ ?_
  ·obtain ⟨v418, hv419, H⟩ := call_st H
   refine ⟨((a0.1, a0.2.1, a0.2.2.1, a0.2.2.2), v418), ⟨hv419⟩, ⟨trivial⟩, ?_⟩
   iterate 4 refine mo1ZR3 ?_
   obtain ⟨v420, hv421, H⟩ := call_st H
   refine ⟨((a0.1, a0.2.1, a0.2.2.1, a0.2.2.2), v420), ⟨hv421⟩, ⟨trivial⟩, ?_⟩
   iterate 4 refine mo1ZR3 ?_
   refine ob_ck H fun h422 H => ?_
   refine R.loop_fam (bind_st H) [0, 3] [(100104, 0, 3, 1), (100105, 0, 9, 1)] (fun _ s425 => [(4, .v (.int .i64 (s425.2.2)))]) (fun _ s425 => [(104, .cells 63 [.own 119]), (105, .cells 27 [.own 120]), (119, .arr 3 1 (s425.1.length) (ei .i64 (s425.1))), (120, .arr 9 1 (s425.2.1.length) (es (s425.2.1)))]) 2 (fun n472 H => ?_)
   refine ⟨(n472, _), ⟨H⟩, ⟨trivial⟩, ?_⟩
   repeat refine mo1ZR3 ?_
   rintro ⟨m0, s425⟩ H _
   obtain ⟨m426, hm0, H⟩ := IG_succ H
   dsimp only at hm0
   subst hm0
   try dsimp only at H
   refine if_st H (fun h456 H => ?_) (fun h456 H => ?_)
   ·refine ob_ck H fun h457 H => ?_
    refine ld_str (e := v418.getD s425.2.2.toNat default) (own_get (ys := es v418) (by first | rfl | simp [ei, eb, es, ec, c133]) (es_get (l := v418) (by first | exact tn h457 | (have := tn h457; simp at this ⊢; omega) | (have := tn h457; simp; omega)))) ?_
    refine if_st H (fun h458 H => ?_) (fun h458 H => ?_)
    ·replace H := some_st H
     dsimp only [stp, sm] at H
     refine ⟨(s425.1, s425.2.1), ⟨H⟩, ⟨rfl⟩, ?_⟩
     repeat refine mo1ZR3 ?_
     first | exact trivial | exact rfl
    ·refine ob_app (by decide) (by first | exact ei_one | ((repeat (refine List.forall_mem_cons.2 ⟨rfl, ?_⟩)); intro y hy; cases hy; done) | (intro y hy; simp [ei, eb, es, ec, c133] at hy; (first | (rcases hy with rfl | hy) | subst hy | skip); all_goals first | rfl | simp_all [Value.oneCell'])) H fun h459 H => ?_
     intro n460 zs462 hn461 hz463
     obtain rfl : n460 = (s425.1 ++ [s425.2.2]).length := hn461.trans (by first | exact List.length_append.symm | (simp; done) | (simp; omega))
     obtain rfl : zs462 = ei .i64 (s425.1 ++ [s425.2.2]) := by first | exact hz463.trans (ei_app (xs := s425.1) (ys := ([s425.2.2]))).symm | (rw [hz463, ei_vw]; first | exact ei_app.symm | exact (ei_app (xs := s425.1)).symm) | (rw [hz463]; simp [ei, eb, es, ec, c133])
     refine ob_app (by decide) (by first | exact es_one | ((repeat (refine List.forall_mem_cons.2 ⟨rfl, ?_⟩)); intro y hy; cases hy; done) | (intro y hy; simp [ei, eb, es, ec, c133] at hy; (first | (rcases hy with rfl | hy) | subst hy | skip); all_goals first | rfl | simp_all [Value.oneCell'])) H fun h464 H => ?_
     intro n465 zs467 hn466 hz468
     obtain rfl : n465 = (s425.2.1 ++ [v418.getD s425.2.2.toNat default]).length := hn466.trans (by first | exact List.length_append.symm | (simp; done) | (simp; omega))
     obtain rfl : zs467 = es (s425.2.1 ++ [v418.getD s425.2.2.toNat default]) := by first | exact hz468.trans (es_app (xs := s425.2.1) (ys := ([v418.getD s425.2.2.toNat default]))).symm | (rw [hz468, es_vw]; first | exact es_app.symm | exact (es_app (xs := s425.2.1)).symm) | (rw [hz468]; simp [ei, eb, es, ec, c133])
     refine ob_ck H fun h469 H => ?_
     replace H := some_st H
     refine ⟨(m426, ((s425.1 ++ [s425.2.2]), (s425.2.1 ++ [v418.getD s425.2.2.toNat default]), s425.2.2 - 1)), ⟨H, Nat.lt_succ_self _⟩, ⟨trivial⟩, ⟨rfl⟩, ?_⟩
     repeat refine mo1ZR3 ?_
     first | exact trivial | exact rfl
   ·replace H := some_st H
    dsimp only [stp, sm] at H
    refine ⟨(s425.1, s425.2.1), ⟨H⟩, ⟨rfl⟩, ?_⟩
    repeat refine mo1ZR3 ?_
    first | exact trivial | exact rfl
  ·intro v416 H
   refine And.intro ⟨by kernel_rfl⟩ ?_
   obtain ⟨v473, hv474, H⟩ := call_st H
   refine ⟨((a1.1, a1.2.1, a1.2.2), v473, (A1_0, cp1_0)), ⟨hv474, hc1_0⟩, ⟨⟨(Reads.mono hq7 hR1_0), trivial⟩⟩, ?_⟩
   iterate 3 refine And.intro ⟨rfl⟩ ?_
   intro q475 g476 hq477 hok478 hrd479
   obtain ⟨⟨A480, c481⟩, ⟨A484, c485⟩⟩ := g476
   obtain ⟨hc482, hc486⟩ := hok478
   obtain ⟨hR483, hR487, _⟩ := hrd479
   try dsimp only at hc482 hR483 hc486 hR487
   refine if_st H (fun h543 H => ?_) (fun h543 H => ?_)
   ·have hfin := fin_st H
    first | subst hfin | (replace hfin := hfin.symm; subst hfin)
    refine ⟨(), ⟨trivial⟩, ⟨trivial⟩, ?_⟩
    repeat refine mo1ZR3 ?_
    first | exact trivial | exact rfl
   ·refine if_st H (fun h544 H => ?_) (fun h544 H => ?_)
    ·have hfin := fin_st H
     first | subst hfin | (replace hfin := hfin.symm; subst hfin)
     refine ⟨(), ⟨trivial⟩, ⟨trivial⟩, ?_⟩
     repeat refine mo1ZR3 ?_
     first | exact trivial | exact rfl
    ·obtain ⟨v545, hv546, H⟩ := call_st H
     refine ⟨(gmin a3 ((a1.1.length : Nat) : Int), v545), ⟨hv546⟩, ⟨trivial⟩, ?_⟩
     refine And.intro ⟨rfl⟩ ?_
     obtain ⟨v547, hv548, H⟩ := call_st H
     refine ⟨(v182.1, v545, v547), ⟨hv548⟩, ⟨trivial⟩, ?_⟩
     refine And.intro ⟨by first | rfl | (simp; done), by first | rfl | (simp [ei, eb, es, ec, c133]; done) | (simp only [ei, eb, es, ec, c133, List.map_append, List.nil_append, List.append_assoc]; rfl)⟩ ?_
     refine And.intro ⟨by first | rfl | (simp; done), by first | rfl | (simp [ei, eb, es, ec, c133]; done) | (simp only [ei, eb, es, ec, c133, List.map_append, List.nil_append, List.append_assoc]; rfl)⟩ ?_
     refine if_st H (fun h549 H => ?_) (fun h549 H => ?_)
     ·have hfin := fin_st H
      first | subst hfin | (replace hfin := hfin.symm; subst hfin)
      refine ⟨(), ⟨trivial⟩, ⟨trivial⟩, ?_⟩
      repeat refine mo1ZR3 ?_
      first | exact trivial | exact rfl
     ·refine ob_sl hc1_0 H fun h550 H => ?_
      have hs551 := sl_es (Reads.mono hq477 (Reads.mono hq7 hR1_0)) rfl hc1_0 h550
      intro n552 hn553
      obtain rfl : n552 = ((a1.1.drop (0 : Int).toNat).take ((gmin a3 ((a1.1.length : Nat) : Int)).toNat - (0 : Int).toNat)).length := hn553.trans hs551.2.1.symm
      obtain ⟨v554, hv555, H⟩ := call_st H
      refine ⟨(v182.2, ((a1.1.drop (0 : Int).toNat).take ((gmin a3 ((a1.1.length : Nat) : Int)).toNat - (0 : Int).toNat)), v554), ⟨hv555⟩, ⟨trivial⟩, ?_⟩
      refine And.intro ⟨by first | rfl | (simp; done), by first | rfl | (simp [ei, eb, es, ec, c133]; done) | (simp only [ei, eb, es, ec, c133, List.map_append, List.nil_append, List.append_assoc]; rfl)⟩ ?_
      refine And.intro ⟨rfl, (Nat.le_trans (Nat.le_of_eq hs551.2.1) hs551.2.2), es_len.trans ((show _ = _ from rfl).trans (Nat.mul_one _).symm), hs551.1⟩ ?_
      refine if_st H (fun h556 H => ?_) (fun h556 H => ?_)
      ·have hfin := fin_st H
       first | subst hfin | (replace hfin := hfin.symm; subst hfin)
       refine ⟨(), ⟨trivial⟩, ⟨trivial⟩, ?_⟩
       repeat refine mo1ZR3 ?_
       first | exact trivial | exact rfl
      ·refine ob_sl hc482 H fun h557 H => ?_
       have hs558 := sl_ei hR483 rfl hc482 h557
       intro n559 hn560
       obtain rfl : n559 = ((v473.1.drop (0 : Int).toNat).take ((gmin a3 ((v473.1.length : Nat) : Int)).toNat - (0 : Int).toNat)).length := hn560.trans hs558.2.1.symm
       obtain ⟨v561, hv562, H⟩ := call_st H
       refine ⟨(v416.1, ((v473.1.drop (0 : Int).toNat).take ((gmin a3 ((v473.1.length : Nat) : Int)).toNat - (0 : Int).toNat)), v561), ⟨hv562⟩, ⟨trivial⟩, ?_⟩
       refine And.intro ⟨by first | rfl | (simp; done), by first | rfl | (simp [ei, eb, es, ec, c133]; done) | (simp only [ei, eb, es, ec, c133, List.map_append, List.nil_append, List.append_assoc]; rfl)⟩ ?_
       refine And.intro ⟨rfl, (Nat.le_trans (Nat.le_of_eq hs558.2.1) hs558.2.2), ei_len.trans ((show _ = _ from rfl).trans (Nat.mul_one _).symm), hs558.1⟩ ?_
       refine if_st H (fun h563 H => ?_) (fun h563 H => ?_)
       ·have hfin := fin_st H
        first | subst hfin | (replace hfin := hfin.symm; subst hfin)
        refine ⟨(), ⟨trivial⟩, ⟨trivial⟩, ?_⟩
        repeat refine mo1ZR3 ?_
        first | exact trivial | exact rfl
       ·refine ob_sl hc486 H fun h564 H => ?_
        have hs565 := sl_es hR487 rfl hc486 h564
        intro n566 hn567
        obtain rfl : n566 = ((v473.2.drop (0 : Int).toNat).take ((gmin a3 ((v473.1.length : Nat) : Int)).toNat - (0 : Int).toNat)).length := hn567.trans hs565.2.1.symm
        obtain ⟨v568, hv569, H⟩ := call_st H
        refine ⟨(v416.2, ((v473.2.drop (0 : Int).toNat).take ((gmin a3 ((v473.1.length : Nat) : Int)).toNat - (0 : Int).toNat)), v568), ⟨hv569⟩, ⟨trivial⟩, ?_⟩
        refine And.intro ⟨by first | rfl | (simp; done), by first | rfl | (simp [ei, eb, es, ec, c133]; done) | (simp only [ei, eb, es, ec, c133, List.map_append, List.nil_append, List.append_assoc]; rfl)⟩ ?_
        refine And.intro ⟨rfl, (Nat.le_trans (Nat.le_of_eq hs565.2.1) hs565.2.2), es_len.trans ((show _ = _ from rfl).trans (Nat.mul_one _).symm), hs565.1⟩ ?_
        refine if_st H (fun h570 H => ?_) (fun h570 H => ?_)
        ·have hfin := fin_st H
         first | subst hfin | (replace hfin := hfin.symm; subst hfin)
         refine ⟨(), ⟨trivial⟩, ⟨trivial⟩, ?_⟩
         repeat refine mo1ZR3 ?_
         first | exact trivial | exact rfl
        ·refine And.intro ⟨by kernel_rfl⟩ ?_
         refine ⟨(Pn.calm 0 (Pn.calm 2 (Pn.calm 3 (Pn.eff 1 [0] (Pn.calm 4 (Pn.calm 5 (Pn.calm 6 (Pn.calm 7 (Pn.calm 8 (Pn.eff 9 [8, 7, 5, 6, 4, 1, 3, 0, 2] (Pn.calm 10 (Pn.calm 11 (Pn.calm 12 (Pn.calm 13 (Pn.calm 15 (Pn.eff 14 [13, 12, 11, 9, 5, 10, 8, 7, 4, 6, 1, 3, 0, 2] (Pn.eff 16 [15, 14, 12, 13, 11, 9, 5, 10, 8, 7, 4, 6, 1, 3, 0, 2] (Pn.calm 17 (Pn.calm 18 (Pn.calm 19 (Pn.calm 20 (Pn.calm 21 (Pn.calm 22 (Pn.calm 23 (Pn.calm 24 (Pn.calm 25 (Pn.calm 26 (Pn.calm 27 (Pn.calm 28 (Pn.calm 29 (Pn.calm 30 (Pn.calm 31 (Pn.calm 32 (Pn.calm 33 (Pn.calm 34 (Pn.calm 35 (Pn.calm 36 (Pn.calm 37 (Pn.calm 38 (Pn.calm 39 (Pn.calm 40 (Pn.calm 41 (Pn.calm 42 (Pn.calm 43 (Pn.calm 44 (Pn.calm 45 Pn.done))))))))))))))))))))))))))))) Pn.no) Pn.no)))))) Pn.no)))))) Pn.no)))), ⟨by kernel_rfl⟩, ?_⟩
         refine And.intro ?_ trivial
         obtain ⟨v571, hv572, H⟩ := call_st H
         refine ⟨((a0.1, a0.2.1, a0.2.2.1, a0.2.2.2), v571), ⟨hv572⟩, ⟨trivial⟩, ?_⟩
         iterate 4 refine mo1ZR3 ?_
         refine And.intro ⟨fun _ _ _ h => h⟩ ?_
         obtain ⟨v573, hv574, H⟩ := call_st H
         refine ⟨(v571, a1.1, v573), ⟨hv574⟩, ⟨trivial⟩, ?_⟩
         refine And.intro ⟨by first | rfl | (simp; done), by first | rfl | (simp [ei, eb, es, ec, c133]; done) | (simp only [ei, eb, es, ec, c133, List.map_append, List.nil_append, List.append_assoc]; rfl)⟩ ?_
         refine And.intro ⟨rfl, hc1_0, es_len.trans ((show _ = _ from rfl).trans (Nat.mul_one _).symm), (Reads.mono hq477 (Reads.mono hq7 hR1_0))⟩ ?_
         refine if_st H (fun h575 H => ?_) (fun h575 H => ?_)
         ·obtain ⟨v576, hv577, H⟩ := call_st H
          refine ⟨((a0.1, a0.2.1, a0.2.2.1, a0.2.2.2), v576), ⟨hv577⟩, ⟨trivial⟩, ?_⟩
          iterate 4 refine mo1ZR3 ?_
          refine And.intro ?_ trivial
          obtain ⟨v578, hv579, H⟩ := call_st H
          refine ⟨((a1.1, a1.2.1, a1.2.2), v578, (A1_0, cp1_0)), ⟨hv579, hc1_0⟩, ⟨⟨(Reads.mono hq477 (Reads.mono hq7 hR1_0)), trivial⟩⟩, ?_⟩
          iterate 3 refine And.intro ⟨rfl⟩ ?_
          intro q580 g581 hq582 hok583 hrd584
          refine And.intro ⟨fun _ _ _ h => (hq582 _ _ _ h)⟩ ?_
          refine if_st H (fun h585 H => ?_) (fun h585 H => ?_)
          ·refine And.intro ?_ trivial
           obtain ⟨v586, hv587, H⟩ := call_st H
           refine ⟨((a0.1, a0.2.1, a0.2.2.1, a0.2.2.2), v586), ⟨hv587⟩, ⟨trivial⟩, ?_⟩
           iterate 4 refine mo1ZR3 ?_
           refine And.intro ⟨fun _ _ _ h => h⟩ ?_
           refine And.intro ?_ trivial
           obtain ⟨v588, hv589, H⟩ := call_st H
           refine ⟨((a1.1, a1.2.1, a1.2.2), v588, (A1_0, cp1_0)), ⟨hv589, hc1_0⟩, ⟨⟨(Reads.mono hq582 (Reads.mono hq477 (Reads.mono hq7 hR1_0))), trivial⟩⟩, ?_⟩
           iterate 3 refine And.intro ⟨rfl⟩ ?_
           intro q590 g591 hq592 hok593 hrd594
           obtain ⟨A595, c596⟩ := g591
           have hc597 := hok593
           obtain ⟨hR598, _⟩ := hrd594
           try dsimp only at hc597 hR598
           refine And.intro ⟨fun _ _ _ h => (hq592 _ _ _ h)⟩ ?_
           obtain ⟨v599, hv600, H⟩ := call_st H
           refine ⟨(v586, v588, v599), ⟨hv600⟩, ⟨trivial⟩, ?_⟩
           refine And.intro ⟨by first | rfl | (simp; done), by first | rfl | (simp [ei, eb, es, ec, c133]; done) | (simp only [ei, eb, es, ec, c133, List.map_append, List.nil_append, List.append_assoc]; rfl)⟩ ?_
           refine And.intro ⟨rfl, hc597, ei_len.trans ((show _ = _ from rfl).trans (Nat.mul_one _).symm), hR598⟩ ?_
           refine if_st H (fun h601 H => ?_) (fun h601 H => ?_)
           ·obtain ⟨v602, hv603, H⟩ := call_st H
            refine ⟨((a0.1, a0.2.1, a0.2.2.1, a0.2.2.2), v602), ⟨hv603⟩, ⟨trivial⟩, ?_⟩
            iterate 4 refine mo1ZR3 ?_
            refine if_st H (fun h604 H => ?_) (fun h604 H => ?_)
            ·obtain ⟨v605, hv606, H⟩ := call_st H
             refine ⟨((a0.1, a0.2.1, a0.2.2.1, a0.2.2.2), v605), ⟨hv606⟩, ⟨trivial⟩, ?_⟩
             iterate 4 refine mo1ZR3 ?_
             refine if_st H (fun h607 H => ?_) (fun h607 H => ?_)
             ·obtain ⟨v608, hv609, H⟩ := call_st H
              refine ⟨((a0.1, a0.2.1, a0.2.2.1, a0.2.2.2), v608), ⟨hv609⟩, ⟨trivial⟩, ?_⟩
              iterate 4 refine mo1ZR3 ?_
              refine ob_ck H fun h610 H => ?_
              have hfin := fin_st H
              first | subst hfin | (replace hfin := hfin.symm; subst hfin)
              refine ⟨(), ⟨trivial⟩, ⟨trivial⟩, ?_⟩
              repeat refine mo1ZR3 ?_
              first | exact trivial | exact rfl
             ·have hfin := fin_st H
              first | subst hfin | (replace hfin := hfin.symm; subst hfin)
              refine ⟨(), ⟨trivial⟩, ⟨trivial⟩, ?_⟩
              repeat refine mo1ZR3 ?_
              first | exact trivial | exact rfl
            ·have hfin := fin_st H
             first | subst hfin | (replace hfin := hfin.symm; subst hfin)
             refine ⟨(), ⟨trivial⟩, ⟨trivial⟩, ?_⟩
             repeat refine mo1ZR3 ?_
             first | exact trivial | exact rfl
           ·have hfin := fin_st H
            first | subst hfin | (replace hfin := hfin.symm; subst hfin)
            refine ⟨(), ⟨trivial⟩, ⟨trivial⟩, ?_⟩
            repeat refine mo1ZR3 ?_
            first | exact trivial | exact rfl
          ·refine And.intro ?_ trivial
           refine And.intro ?_ trivial
           have hfin := fin_st H
           first | subst hfin | (replace hfin := hfin.symm; subst hfin)
           refine ⟨(), ⟨trivial⟩, ⟨trivial⟩, ?_⟩
           repeat refine mo1ZR3 ?_
           first | exact trivial | exact rfl
         ·refine And.intro ?_ trivial
          refine And.intro ?_ trivial
          refine And.intro ?_ trivial
          have hfin := fin_st H
          first | subst hfin | (replace hfin := hfin.symm; subst hfin)
          refine ⟨(), ⟨trivial⟩, ⟨trivial⟩, ?_⟩
          repeat refine mo1ZR3 ?_
          first | exact trivial | exact rfl
end Go.Proofs.YtenjkphlbdhaiaaGreat
end
section
namespace Go.Proofs.YtenjkphlbdhaiaaGreat
open Go Go.Eng
theorem mo1ZR4 {p q : Prop} (k : q) (h : p := by first | exact rfl | exact Iff.rfl | exact ⟨rfl, rfl⟩ | exact decide_eq_true_iff | (constructor <;> first | exact rfl | (simp only [ei, eb, es, ec, c133, gmin, gmax, List.map_append, List.flatMap_append, List.nil_append, List.append_nil, List.append_assoc]; done) | omega | (simp only [List.nil_append, List.length_append, List.length_cons, List.length_nil]; omega) | (simp [ei, eb, es, ec, c133, gmin, gmax]; done)) | exact rfl | (simp only [ei, eb, es, ec, c133, gmin, gmax, List.map_append, List.flatMap_append, List.nil_append, List.append_nil, List.append_assoc]; done) | omega | (simp only [List.nil_append, List.length_append, List.length_cons, List.length_nil]; omega) | (simp [ei, eb, es, ec, c133, gmin, gmax]; done) | simp [ei, eb, es, ec, c133, gmin, gmax]) : Ob p ∧ q := ⟨⟨h⟩, k⟩
noncomputable def g8 (a0 : (Int × List ByteArray × Int × Int)) (a1 : (List ByteArray × Int × Int)) (a2 : (Int × Int × Int × List ByteArray)) : Option ((List ByteArray × Int × Int) × Bool × (Int × List ByteArray × Int × Int)) :=
 jn (α := _) (β := List ByteArray) (fun k12 =>
   (g17 a2.2.2.2).bind fun v13 =>
   k12 v13
 ) (fun v11 =>
  if (Int.tmod a2.1 8) = 3 then
   (
    (g11 (a0.1, a0.2.1, a0.2.2.1, a0.2.2.2) a2.2.1).bind fun v26 =>
    (g18 (a1.1, a1.2.1, a1.2.2) a2.2.1).bind fun v28 =>
    some ((v28.1.1, v28.1.2.1, v28.1.2.2), (decide (v26.1 = v28.2)), (v26.2.1, v26.2.2.1, v26.2.2.2.1, v26.2.2.2.2))
   )
  else
   (
    if (Int.tmod a2.1 8) = 4 then
     (
      (g13 (a0.1, a0.2.1, a0.2.2.1, a0.2.2.2) a2.2.1 a2.2.2.1).bind fun v40 =>
      (g19 (a1.1, a1.2.1, a1.2.2) a2.2.1 a2.2.2.1).bind fun v51 =>
      (g20 v40.1 v51.2).bind fun v66 =>
      some ((v51.1.1, v51.1.2.1, v51.1.2.2), v66, (v40.2.1, v40.2.2.1, v40.2.2.2.1, v40.2.2.2.2))
     )
    else
     (
      if (Int.tmod a2.1 8) = 5 then
       (
        jn (α := _) (β := ByteArray) (fun k74 =>
          if 0 < ((v11.length : Nat) : Int) then
           (
            ck (0 ≤ (0 : Int) ∧ 0 < ((v11.length : Nat) : Int)) <|
            k74 (v11.getD (0 : Int).toNat default)
           )
          else
           k74 (lit [])
        ) (fun v73 =>
         (g21 (a0.1, a0.2.1, a0.2.2.1, a0.2.2.2) a2.2.1 v73).bind fun v77 =>
         (g22 (a1.1, a1.2.1, a1.2.2) a2.2.1 v73).bind fun v79 =>
         some ((v79.1.1, v79.1.2.1, v79.1.2.2), (decide (v77.1 = v79.2)), (v77.2.1, v77.2.2.1, v77.2.2.2.1, v77.2.2.2.2))
        )
       )
      else
       (
        if (Int.tmod a2.1 8) = 6 then
         (
          (g23 (a0.1, a0.2.1, a0.2.2.1, a0.2.2.2) v11).bind fun v91 =>
          (g24 (a1.1, a1.2.1, a1.2.2) v11).bind fun v93 =>
          if v91.1 = v93.1 then
           some ((a1.1, a1.2.1, a1.2.2), (decide ((v91.2 = true) ↔ (v93.2 = true))), (a0.1, a0.2.1, a0.2.2.1, a0.2.2.2))
          else
           some ((a1.1, a1.2.1, a1.2.2), false, (a0.1, a0.2.1, a0.2.2.1, a0.2.2.2))
         )
        else
         (
          (g10 (a0.1, a0.2.1, a0.2.2.1, a0.2.2.2) v11).bind fun v101 =>
          (g25 (a1.1, a1.2.1, a1.2.2) v11).bind fun v103 =>
          some ((v103.1.1, v103.1.2.1, v103.1.2.2), (decide (v101.1 = v103.2)), (v101.2.1, v101.2.2.1, v101.2.2.2.1, v101.2.2.2.2))
         )
       )
     )
   )
 )
noncomputable def k8 : Eng.CS := { f := 8, calm := false, more := 3, ι := (Int × List ByteArray × Int × Int) × (List ByteArray × Int × Int) × (Int × Int × Int × List ByteArray) × ((List ByteArray × Int × Int) × Bool × (Int × List ByteArray × Int × Int)) × ((Option Addr × Nat) × (Option Addr × Nat)), ok := fun i => g8 i.1 i.2.1 i.2.2.1 = some i.2.2.2.1 ∧ i.2.1.1.length ≤ i.2.2.2.2.1.2 ∧ i.2.2.1.2.2.2.length ≤ i.2.2.2.2.2.2, rds := fun i => [(i.2.2.2.2.1.1, es i.2.1.1), (i.2.2.2.2.2.1, es i.2.2.1.2.2.2)], args := fun i => [.w (.lp 0 0), .w (.agg [.v (.slice i.2.2.2.2.1.1 i.2.1.1.length i.2.2.2.2.1.2), .v (.int .i64 (i.2.1.2.1)), .v (.int .i64 (i.2.1.2.2))]), .w (.agg [.v (.int .u8 (i.2.2.1.1)), .v (.int .i64 (i.2.2.1.2.1)), .v (.int .i64 (i.2.2.1.2.2.1)), .v (.slice i.2.2.2.2.2.1 i.2.2.1.2.2.2.length i.2.2.2.2.2.2)])], res := fun _ => .bad, rn := [(100000, 1, 9, 1)], keys := 2, L := fun i => [(0, .cells 41 [.v (.int .i64 (i.1.1)), .own 1, .v (.int .i64 (i.1.2.2.1)), .v (.int .i64 (i.1.2.2.2))]), (1, .arr 9 1 i.1.2.1.length (es i.1.2.1))], gr := true, γ := (Option Addr × Nat), resG := fun i g => .tup [.agg [.v (.slice g.1 i.2.2.2.1.1.1.length g.2), .v (.int .i64 (i.2.2.2.1.1.2.1)), .v (.int .i64 (i.2.2.2.1.1.2.2))], bS i.2.2.2.1.2.1], LG := fun i _ => [(0, .cells 41 [.v (.int .i64 (i.2.2.2.1.2.2.1)), .own 2, .v (.int .i64 (i.2.2.2.1.2.2.2.2.1)), .v (.int .i64 (i.2.2.2.1.2.2.2.2.2))]), (2, .arr 9 1 i.2.2.2.1.2.2.2.1.length (es i.2.2.2.1.2.2.2.1))], okG := fun i g => i.2.2.2.1.1.1.length ≤ g.2, rdsG := fun i g => [(g.1, es i.2.2.2.1.1.1)], fzr := [(0, 0)] }
set_option maxRecDepth 8000 in
set_option maxHeartbeats 4000000 in
theorem k8_ok : CSOk Tryz.prog k8 := by
 refine R.cspecG Tryz.func8 nm8 rfl rfl (fun _ => rfl) ?_
 rintro ⟨a0, a1, a2, r, ⟨⟨A1_0, cp1_0⟩, ⟨A2_3, cp2_3⟩⟩⟩ ⟨hok, hc1_0, hc2_3⟩ q hrds args hargs
 obtain ⟨hR1_0, hR2_3, _⟩ := hrds
 dsimp only at hR1_0 hc1_0 hR2_3 hc2_3
 dsimp only [k8] at hargs ⊢
 match args, hargs with
 | [_, _, _], hargs =>
 obtain ⟨rfl, rfl, rfl, _⟩ := hargs
 refine ⟨envC [k10, k11, k13, k17, k18, k19, k20, k21, k22, k23, k24, k25] false [(8, 2), (8, 18)], 6, envC_ok (css_cons ⟨fun h => (by cases h), fun _ => k10_ok⟩ (css_cons ⟨fun h => (by cases h), fun _ => k11_ok⟩ (css_cons ⟨fun h => (by cases h), fun _ => k13_ok⟩ (css_cons ⟨fun h => (by cases h), fun _ => k17_ok⟩ (css_cons ⟨fun h => (by cases h), fun _ => k18_ok⟩ (css_cons ⟨fun h => (by cases h), fun _ => k19_ok⟩ (css_cons ⟨fun _ => k20_ok, fun h => (by cases h)⟩ (css_cons ⟨fun h => (by cases h), fun _ => k21_ok⟩ (css_cons ⟨fun h => (by cases h), fun _ => k22_ok⟩ (css_cons ⟨fun _ => k23_ok, fun h => (by cases h)⟩ (css_cons ⟨fun h => (by cases h), fun _ => k24_ok⟩ (css_cons ⟨fun h => (by cases h), fun _ => k25_ok⟩ (css_nil))))))))))))), ?_⟩
 have H : Gives (g8 a0 a1 a2) (fun a => a = r) := ⟨r, hok, rfl⟩
 unfold g8 at H
 clear hok
 refine R.cut_famXG H 12 [0, 4, 5, 6] [] [(8, 0)] (fun (v11 : List ByteArray) (g : (Option Addr × Nat)) => [(8, .v (.slice ((g.1)) (v11.length) ((g.2))))]) (fun (v11 : List ByteArray) (g : (Option Addr × Nat)) => []) [(0, .cells 41 [.v (.int .i64 (a0.1)), .own 1, .v (.int .i64 (a0.2.2.1)), .v (.int .i64 (a0.2.2.2))]), (1, .arr 9 1 (a0.2.1.length) (es (a0.2.1))), (2, .cells 29 [.v (.slice (A1_0) (a1.1.length) (cp1_0)), .v (.int .i64 (a1.2.1)), .v (.int .i64 (a1.2.2))]), (3, .cells 34 [.v (.int .u8 (a2.1)), .v (.int .i64 (a2.2.1)), .v (.int .i64 (a2.2.2.1)), .v (.slice (A2_3) (a2.2.2.2.length) (cp2_3))]), (4, .cells 29 [.v (.slice none 0 0), .v (.int .i64 (0)), .v (.int .i64 (0))])] 0 (fun q (v11 : List ByteArray) (g : (Option Addr × Nat)) => Reads q g.1 (es v11) ∧ v11.length ≤ g.2) (fun H => ?_)
 refine And.intro ?_ ?_
 ·obtain ⟨v13, hv14, H⟩ := call_st H
  refine ⟨(a2.2.2.2, v13), ⟨hv14⟩, ⟨trivial⟩, ?_⟩
  refine And.intro ⟨rfl, hc2_3, es_len.trans ((show _ = _ from rfl).trans (Nat.mul_one _).symm), hR2_3⟩ ?_
  intro q15 A16 c17 hq18 hc19 hR20
  replace hR20 : Reads q15 A16 (es v13) := Eq.mp (congrArg (Reads q15 A16) (by first | exact rfl | (simp only [ei, eb, es, ec, c133, gmin, gmax, List.map_append, List.flatMap_append, List.nil_append, List.append_nil, List.append_assoc]; done))) hR20
  refine ⟨(v13, (A16, c17)), ⟨H, hR20, hc19⟩, ⟨fun _ _ _ h => (hq18 _ _ _ h)⟩, ?_⟩
  repeat refine mo1ZR4 ?_
  first | exact trivial | exact rfl
 ·rintro q10 hq9 ⟨v11, ⟨A21, c22⟩⟩ ⟨H, hR23, hc24⟩
  dsimp only at H hR23 hc24
  refine And.intro ⟨by decide⟩ ?_
  refine if_st H (fun h25 H => ?_) (fun h25 H => ?_)
  ·obtain ⟨v26, hv27, H⟩ := call_st H
   refine ⟨((a0.1, a0.2.1, a0.2.2.1, a0.2.2.2), a2.2.1, v26), ⟨hv27⟩, ⟨trivial⟩, ?_⟩
   iterate 2 refine And.intro ⟨rfl⟩ ?_
   iterate 4 refine mo1ZR4 ?_
   obtain ⟨v28, hv29, H⟩ := call_st H
   refine ⟨((a1.1, a1.2.1, a1.2.2), a2.2.1, v28, (A1_0, cp1_0)), ⟨hv29, hc1_0⟩, ⟨⟨(Reads.mono hq9 hR1_0), trivial⟩⟩, ?_⟩
   iterate 4 refine And.intro ⟨rfl⟩ ?_
   intro q30 g31 hq32 hok33 hrd34
   obtain ⟨A35, c36⟩ := g31
   have hc37 := hok33
   obtain ⟨hR38, _⟩ := hrd34
   try dsimp only at hc37 hR38
   have hfin := fin_st H
   first | subst hfin | (replace hfin := hfin.symm; subst hfin)
   refine ⟨(A35, c36), ⟨hc37⟩, ⟨⟨hR38, trivial⟩⟩, ?_⟩
   repeat refine mo1ZR4 ?_
   first | exact trivial | exact rfl
  ·refine if_st H (fun h39 H => ?_) (fun h39 H => ?_)
   ·obtain ⟨v40, hv41, H⟩ := call_st H
    refine ⟨((a0.1, a0.2.1, a0.2.2.1, a0.2.2.2), a2.2.1, a2.2.2.1, v40), ⟨hv41⟩, ⟨trivial⟩, ?_⟩
    iterate 3 refine And.intro ⟨rfl⟩ ?_
    iterate 4 refine mo1ZR4 ?_
    intro q42 g43 hq44 hok45 hrd46
    obtain ⟨A47, c48⟩ := g43
    have hc49 := hok45
    obtain ⟨hR50, _⟩ := hrd46
    try dsimp only at hc49 hR50
    obtain ⟨v51, hv52, H⟩ := call_st H
    refine ⟨((a1.1, a1.2.1, a1.2.2), a2.2.1, a2.2.2.1, v51, (A1_0, cp1_0)), ⟨hv52, hc1_0⟩, ⟨⟨(Reads.mono hq44 (Reads.mono hq9 hR1_0)), trivial⟩⟩, ?_⟩
    iterate 5 refine And.intro ⟨rfl⟩ ?_
    intro q53 g54 hq55 hok56 hrd57
    obtain ⟨⟨A58, c59⟩, ⟨A62, c63⟩⟩ := g54
    obtain ⟨hc60, hc64⟩ := hok56
    obtain ⟨hR61, hR65, _⟩ := hrd57
    try dsimp only at hc60 hR61 hc64 hR65
    refine And.intro ⟨by kernel_rfl⟩ ?_
    refine ⟨(Pn.calm 0 (Pn.calm 1 (Pn.calm 2 (Pn.calm 3 (Pn.eff 4 [0, 3, 1, 2] (Pn.calm 5 Pn.done) Pn.no))))), ⟨by kernel_rfl⟩, ?_⟩
    obtain ⟨v66, hv67, H⟩ := call_st H
    refine ⟨(v40.1, v51.2, v66), ⟨hv67⟩, ⟨trivial⟩, ?_⟩
    refine And.intro ⟨rfl, hc49, es_len.trans ((show _ = _ from rfl).trans (Nat.mul_one _).symm), (Reads.mono hq55 hR50)⟩ ?_
    refine And.intro ⟨rfl, hc64, es_len.trans ((show _ = _ from rfl).trans (Nat.mul_one _).symm), hR65⟩ ?_
    refine And.intro ?_ trivial
    refine And.intro ⟨fun _ _ _ h => h⟩ ?_
    have hfin := fin_st H
    first | subst hfin | (replace hfin := hfin.symm; subst hfin)
    refine ⟨(A58, c59), ⟨hc60⟩, ⟨⟨hR61, trivial⟩⟩, ?_⟩
    repeat refine mo1ZR4 ?_
    first | exact trivial | exact rfl
   ·refine if_st H (fun h68 H => ?_) (fun h68 H => ?_)
    ·refine R.cut_fam H 30 [0, 4, 5, 6] [] (fun v73 => [(15, .v (.string (v73)))]) (fun v73 => []) [(0, .cells 41 [.v (.int .i64 (a0.1)), .own 1, .v (.int .i64 (a0.2.2.1)), .v (.int .i64 (a0.2.2.2))]), (1, .arr 9 1 (a0.2.1.length) (es (a0.2.1))), (2, .cells 29 [.v (.slice (A1_0) (a1.1.length) (cp1_0)), .v (.int .i64 (a1.2.1)), .v (.int .i64 (a1.2.2))]), (3, .cells 34 [.v (.int .u8 (a2.1)), .v (.int .i64 (a2.2.1)), .v (.int .i64 (a2.2.2.1)), .v (.slice (A2_3) (a2.2.2.2.length) (cp2_3))]), (4, .cells 29 [.v (.slice none 0 0), .v (.int .i64 (0)), .v (.int .i64 (0))])] 0 (fun H => ?_)
     refine And.intro ?_ ?_
     ·refine if_st H (fun h75 H => ?_) (fun h75 H => ?_)
      ·refine ob_ix hR23 (fun h => es0 h) H fun h76 H => ?_
       refine ld_str (e := v11.getD (0 : Int).toNat default) (rd_get hR23 (es_get (l := v11) (tn h76))) ?_
       refine ⟨v11.getD (0 : Int).toNat default, ⟨H⟩, ⟨rfl⟩, ?_⟩
       repeat refine mo1ZR4 ?_
       first | exact trivial | exact rfl
      ·refine ⟨(lit []), ⟨H⟩, ⟨rfl⟩, ?_⟩
       repeat refine mo1ZR4 ?_
       first | exact trivial | exact rfl
     ·intro v73 H
      obtain ⟨v77, hv78, H⟩ := call_st H
      refine ⟨((a0.1, a0.2.1, a0.2.2.1, a0.2.2.2), a2.2.1, v73, v77), ⟨hv78⟩, ⟨trivial⟩, ?_⟩
      iterate 3 refine And.intro ⟨rfl⟩ ?_
      iterate 4 refine mo1ZR4 ?_
      obtain ⟨v79, hv80, H⟩ := call_st H
      refine ⟨((a1.1, a1.2.1, a1.2.2), a2.2.1, v73, v79, (A1_0, cp1_0)), ⟨hv80, hc1_0⟩, ⟨⟨(Reads.mono hq9 hR1_0), trivial⟩⟩, ?_⟩
      iterate 5 refine And.intro ⟨rfl⟩ ?_
      intro q81 g82 hq83 hok84 hrd85
      obtain ⟨A86, c87⟩ := g82
      have hc88 := hok84
      obtain ⟨hR89, _⟩ := hrd85
      try dsimp only at hc88 hR89
      have hfin := fin_st H
      first | subst hfin | (replace hfin := hfin.symm; subst hfin)
      refine ⟨(A86, c87), ⟨hc88⟩, ⟨⟨hR89, trivial⟩⟩, ?_⟩
      repeat refine mo1ZR4 ?_
      first | exact trivial | exact rfl
    ·refine if_st H (fun h90 H => ?_) (fun h90 H => ?_)
     ·obtain ⟨v91, hv92, H⟩ := call_st H
      refine ⟨((a0.1, a0.2.1, a0.2.2.1, a0.2.2.2), v11, v91), ⟨hv92⟩, ⟨trivial⟩, ?_⟩
      iterate 4 refine mo1ZR4 ?_
      refine And.intro ⟨rfl, hc24, es_len.trans ((show _ = _ from rfl).trans (Nat.mul_one _).symm), hR23⟩ ?_
      obtain ⟨v93, hv94, H⟩ := call_st H
      refine ⟨((a1.1, a1.2.1, a1.2.2), v11, v93, ((A1_0, cp1_0), (A21, c22))), ⟨hv94, hc1_0, hc24⟩, ⟨⟨(Reads.mono hq9 hR1_0), hR23, trivial⟩⟩, ?_⟩
      iterate 4 refine And.intro ⟨rfl⟩ ?_
      intro q95 g96 hq97 hok98 hrd99
      refine if_st H (fun h100 H => ?_) (fun h100 H => ?_)
      ·have hfin := fin_st H
       first | subst hfin | (replace hfin := hfin.symm; subst hfin)
       refine ⟨(A1_0, cp1_0), ⟨hc1_0⟩, ⟨⟨(Reads.mono hq97 (Reads.mono hq9 hR1_0)), trivial⟩⟩, ?_⟩
       repeat refine mo1ZR4 ?_
       first | exact trivial | exact rfl
      ·have hfin := fin_st H
       first | subst hfin | (replace hfin := hfin.symm; subst hfin)
       refine ⟨(A1_0, cp1_0), ⟨hc1_0⟩, ⟨⟨(Reads.mono hq97 (Reads.mono hq9 hR1_0)), trivial⟩⟩, ?_⟩
       repeat refine mo1ZR4 ?_
       first | exact trivial | exact rfl
     ·obtain ⟨v101, hv102, H⟩ := call_st H
      refine ⟨((a0.1, a0.2.1, a0.2.2.1, a0.2.2.2), v11, v101), ⟨hv102⟩, ⟨trivial⟩, ?_⟩
      refine And.intro ⟨rfl⟩ ?_
      refine And.intro ⟨rfl, hc24, es_len.trans ((show _ = _ from rfl).trans (Nat.mul_one _).symm), hR23⟩ ?_
      iterate 4 refine mo1ZR4 ?_
      obtain ⟨v103, hv104, H⟩ := call_st H
      refine ⟨((a1.1, a1.2.1, a1.2.2), v11, v103, ((A1_0, cp1_0), (A21, c22))), ⟨hv104, hc1_0, hc24⟩, ⟨⟨(Reads.mono hq9 hR1_0), hR23, trivial⟩⟩, ?_⟩
      iterate 4 refine And.intro ⟨rfl⟩ ?_
      intro q105 g106 hq107 hok108 hrd109
      obtain ⟨A110, c111⟩ := g106
      have hc112 := hok108
      obtain ⟨hR113, _⟩ := hrd109
      try dsimp only at hc112 hR113
      have hfin := fin_st H
      first | subst hfin | (replace hfin := hfin.symm; subst hfin)
      refine ⟨(A110, c111), ⟨hc112⟩, ⟨⟨hR113, trivial⟩⟩, ?_⟩
      repeat refine mo1ZR4 ?_
      first | exact trivial | exact rfl
end Go.Proofs.YtenjkphlbdhaiaaGreat
end
section
namespace Go.Proofs.YtenjkphlbdhaiaaGreat
open Go Go.Eng
def c34 (p : (Int × Int × Int × ((Option Addr × Nat) × List ByteArray))) : List Value := [.int .u8 p.1, .int .i64 p.2.1, .int .i64 p.2.2.1, .slice p.2.2.2.1.1 p.2.2.2.2.length p.2.2.2.1.2]
theorem c34_len : ∀ a, (c34 a).length = 4 := fun _ => rfl
def e34 (p : (Int × Int × Int × ((Option Addr × Nat) × List ByteArray))) : (Int × Int × Int × List ByteArray) := (p.1, p.2.1, p.2.2.1, p.2.2.2.2)
def P34 (q : PH) (p : (Int × Int × Int × ((Option Addr × Nat) × List ByteArray))) : Prop := Reads q p.2.2.2.1.1 (es p.2.2.2.2) ∧ p.2.2.2.2.length ≤ p.2.2.2.1.2
def R34 (p : (Int × Int × Int × ((Option Addr × Nat) × List ByteArray))) : List (Option Addr × List Value) := [(p.2.2.2.1.1, es p.2.2.2.2)]
def cap34 (p : (Int × Int × Int × ((Option Addr × Nat) × List ByteArray))) : Prop := p.2.2.2.2.length ≤ p.2.2.2.1.2
theorem P34.mono {q q' : PH} (h : q.le q') {p : (Int × Int × Int × ((Option Addr × Nat) × List ByteArray))} (hp : P34 q p) : P34 q' p := ⟨Reads.mono h hp.1, hp.2⟩
theorem P34.of {q : PH} {l : List ((Int × Int × Int × ((Option Addr × Nat) × List ByteArray)))} (h : Eng.RdsOk q (l.flatMap R34)) (hc : ∀ p ∈ l, cap34 p) : ∀ p ∈ l, P34 q p := fun p hp => ⟨rds_mem (x := (p.2.2.2.1.1, es p.2.2.2.2)) h (List.mem_flatMap.2 ⟨p, hp, by simp [R34]⟩), (hc p hp)⟩
theorem P34.rds {q : PH} {l : List ((Int × Int × Int × ((Option Addr × Nat) × List ByteArray)))} (h : ∀ p ∈ l, P34 q p) : RdsOk q (l.flatMap R34) := rds_of fun x hx => by obtain ⟨p, hp, hx⟩ := List.mem_flatMap.1 hx; have h := h p hp; simp only [R34, List.mem_cons, List.not_mem_nil, or_false] at hx; rcases hx with rfl; exact h.1
theorem P34.cap {q : PH} {l : List ((Int × Int × Int × ((Option Addr × Nat) × List ByteArray)))} (h : ∀ p ∈ l, P34 q p) : ∀ p ∈ l, cap34 p := fun p hp => (h p hp).2
theorem mo1ZR5 {p q : Prop} (k : q) (h : p := by first | exact rfl | exact Iff.rfl | exact ⟨rfl, rfl⟩ | exact decide_eq_true_iff | (constructor <;> first | exact rfl | (simp only [ei, eb, es, ec, c34, c133, gmin, gmax, List.map_append, List.flatMap_append, List.nil_append, List.append_nil, List.append_assoc]; done) | omega | (simp only [List.nil_append, List.length_append, List.length_cons, List.length_nil]; omega) | (simp [ei, eb, es, ec, c34, c133, gmin, gmax]; done)) | exact rfl | (simp only [ei, eb, es, ec, c34, c133, gmin, gmax, List.map_append, List.flatMap_append, List.nil_append, List.append_nil, List.append_assoc]; done) | omega | (simp only [List.nil_append, List.length_append, List.length_cons, List.length_nil]; omega) | (simp [ei, eb, es, ec, c34, c133, gmin, gmax]; done) | simp [ei, eb, es, ec, c34, c133, gmin, gmax]) : Ob p ∧ q := ⟨⟨h⟩, k⟩
theorem mf1ZR5 {p q : Prop} (k : q) (h : p := by first | (rw [← hfin] <;> first | exact rfl | exact Iff.rfl | exact ⟨rfl, rfl⟩ | exact decide_eq_true_iff | (constructor <;> first | exact rfl | (simp only [ei, eb, es, ec, c34, c133, gmin, gmax, List.map_append, List.flatMap_append, List.nil_append, List.append_nil, List.append_assoc]; done) | omega | (simp only [List.nil_append, List.length_append, List.length_cons, List.length_nil]; omega) | (simp [ei, eb, es, ec, c34, c133, gmin, gmax]; done)) | exact rfl | (simp only [ei, eb, es, ec, c34, c133, gmin, gmax, List.map_append, List.flatMap_append, List.nil_append, List.append_nil, List.append_assoc]; done) | omega | (simp only [List.nil_append, List.length_append, List.length_cons, List.length_nil]; omega) | (simp [ei, eb, es, ec, c34, c133, gmin, gmax]; done) | simp [ei, eb, es, ec, c34, c133, gmin, gmax]) | first | exact rfl | exact Iff.rfl | exact ⟨rfl, rfl⟩ | exact decide_eq_true_iff | (constructor <;> first | exact rfl | (simp only [ei, eb, es, ec, c34, c133, gmin, gmax, List.map_append, List.flatMap_append, List.nil_append, List.append_nil, List.append_assoc]; done) | omega | (simp only [List.nil_append, List.length_append, List.length_cons, List.length_nil]; omega) | (simp [ei, eb, es, ec, c34, c133, gmin, gmax]; done)) | exact rfl | (simp only [ei, eb, es, ec, c34, c133, gmin, gmax, List.map_append, List.flatMap_append, List.nil_append, List.append_nil, List.append_assoc]; done) | omega | (simp only [List.nil_append, List.length_append, List.length_cons, List.length_nil]; omega) | (simp [ei, eb, es, ec, c34, c133, gmin, gmax]; done) | simp [ei, eb, es, ec, c34, c133, gmin, gmax]) : Ob p ∧ q := ⟨⟨h⟩, k⟩
noncomputable def g3 (a0 : Int) (a1 : List (Int × Int × Int × ((Option Addr × Nat) × List ByteArray))) (a2 : Int) (a3 : Int) : Option (Bool) :=
 if a0 < 1 then
  (
   if a0 < 1 then
    (
     (g6).bind fun v11 =>
     if ¬ (v11 = true) then
      some false
     else
      (
       jn (α := _) (β := Unit) (fun k24 =>
         (loopO (σ := Unit) (ρ := Unit) (fun s27 =>
           if 0 < ((a1.length : Nat) : Int) then
            some (.out ())
           else
            some (.out ())
          ) ()).bind fun o30 =>
          k24 ()
       ) (fun v23 =>
        some true
       )
      )
    )
   else
    (
     if 4096 < a0 then
      (
       (g6).bind fun v34 =>
       if ¬ (v34 = true) then
        some false
       else
        (
         jn (α := _) (β := Unit) (fun k46 =>
           (loopO (σ := Unit) (ρ := Unit) (fun s49 =>
             if 0 < ((a1.length : Nat) : Int) then
              some (.out ())
             else
              some (.out ())
            ) ()).bind fun o52 =>
            k46 ()
         ) (fun v45 =>
          some true
         )
        )
      )
     else
      some false
    )
  )
 else
  (
   if 4096 < a0 then
    (
     if a0 < 1 then
      (
       (g6).bind fun v57 =>
       if ¬ (v57 = true) then
        some false
       else
        (
         jn (α := _) (β := Unit) (fun k69 =>
           (loopO (σ := Unit) (ρ := Unit) (fun s72 =>
             if 0 < ((a1.length : Nat) : Int) then
              some (.out ())
             else
              some (.out ())
            ) ()).bind fun o75 =>
            k69 ()
         ) (fun v68 =>
          some true
         )
        )
      )
     else
      (
       if 4096 < a0 then
        (
         (g6).bind fun v79 =>
         if ¬ (v79 = true) then
          some false
         else
          (
           jn (α := _) (β := Unit) (fun k91 =>
             (loopO (σ := Unit) (ρ := Unit) (fun s94 =>
               if 0 < ((a1.length : Nat) : Int) then
                some (.out ())
               else
                some (.out ())
              ) ()).bind fun o97 =>
              k91 ()
           ) (fun v90 =>
            some true
           )
          )
        )
       else
        some false
      )
    )
   else
    (
     if a0 < 1 then
      some false
     else
      (
       if 4096 < a0 then
        some false
       else
        (
         (g6).bind fun v102 =>
         if ¬ (v102 = true) then
          some false
         else
          (
           jn (α := _) (β := List ByteArray × Int × Int) (fun k458 =>
             (loopO (σ := List ByteArray × Int × Int × Int × List ByteArray × Int × Int × Int) (ρ := (List ByteArray × Int × Int) ⊕ (List ByteArray × Int × Int)) (fun s461 =>
               if s461.2.2.2.2.2.2.2 < ((a1.length : Nat) : Int) then
                (
                 if s461.2.2.2.2.2.2.2 < 60 then
                  (
                   ck (0 ≤ s461.2.2.2.2.2.2.2 ∧ s461.2.2.2.2.2.2.2 < ((a1.length : Nat) : Int)) <|
                   if (Int.tmod ((a1.getD s461.2.2.2.2.2.2.2.toNat default).1) 8) = 7 then
                    (
                     (g39 (s461.2.2.2.1, s461.2.2.2.2.1, s461.2.2.2.2.2.1, s461.2.2.2.2.2.2.1)).bind fun v629 =>
                     if ¬ (v629 = true) then
                      (
                       (g16 (s461.2.2.2.1, s461.2.2.2.2.1, s461.2.2.2.2.2.1, s461.2.2.2.2.2.2.1)).bind fun v632 =>
                       (g13 (s461.2.2.2.1, s461.2.2.2.2.1, s461.2.2.2.2.2.1, s461.2.2.2.2.2.2.1) 0 v632).bind fun v634 =>
                       some (.out (.inl ((s461.1, s461.2.1, s461.2.2.1))))
                      )
                     else
                      (
                       ck (0 ≤ ((s461.2.2.2.2.1.length : Nat) : Int) ∧ ((s461.2.2.2.2.1.length : Nat) : Int) ≤ ((s461.2.2.2.2.1.length : Nat) : Int) ∧ ((s461.2.2.2.2.1.length : Nat) : Int) ≤ 9223372036854775807 ∧ ((s461.2.2.2.2.1.length : Nat) : Int) * ((16 : Nat) : Int) ≤ 140737488355328) <|
                       (g16 (s461.2.2.2.1, s461.2.2.2.2.1, s461.2.2.2.2.2.1, s461.2.2.2.2.2.2.1)).bind fun v658 =>
                       (g13 (s461.2.2.2.1, s461.2.2.2.2.1, s461.2.2.2.2.2.1, s461.2.2.2.2.2.2.1) 0 v658).bind fun v660 =>
                       ck (inR .i64 a3) <|
                       (g9 (s461.2.2.2.1, (cpy (List.replicate ((s461.2.2.2.2.1.length : Nat) : Int).toNat (⟨#[]⟩ : ByteArray)) 0 s461.2.2.2.2.1 (min s461.2.2.2.2.1.length (((s461.2.2.2.2.1.length : Nat) : Int).toNat))), s461.2.2.2.2.2.1, s461.2.2.2.2.2.2.1) (s461.1, s461.2.1, s461.2.2.1) a2 a3).bind fun v672 =>
                       if ¬ (v672.1 = true) then
                        some (.out (.inl ((s461.1, s461.2.1, s461.2.2.1))))
                       else
                        (
                         ck (inR .i64 (s461.2.2.2.2.2.2.2 + 1)) <|
                         some (.go (s461.1, s461.2.1, s461.2.2.1, v672.2.1, v672.2.2.1, v672.2.2.2.1, v672.2.2.2.2, s461.2.2.2.2.2.2.2 + 1))
                        )
                      )
                    )
                   else
                    (
                     ck (0 ≤ s461.2.2.2.2.2.2.2 ∧ s461.2.2.2.2.2.2.2 < ((a1.length : Nat) : Int)) <|
                     (g8 (s461.2.2.2.1, s461.2.2.2.2.1, s461.2.2.2.2.2.1, s461.2.2.2.2.2.2.1) (s461.1, s461.2.1, s461.2.2.1) ((a1.getD s461.2.2.2.2.2.2.2.toNat default).1, (a1.getD s461.2.2.2.2.2.2.2.toNat default).2.1, (a1.getD s461.2.2.2.2.2.2.2.toNat default).2.2.1, (a1.getD s461.2.2.2.2.2.2.2.toNat default).2.2.2.2)).bind fun v682 =>
                     if ¬ (v682.2.1 = true) then
                      some (.out (.inl ((v682.1.1, v682.1.2.1, v682.1.2.2))))
                     else
                      (
                       ck (inR .i64 a3) <|
                       (g9 (v682.2.2.1, v682.2.2.2.1, v682.2.2.2.2.1, v682.2.2.2.2.2) (v682.1.1, v682.1.2.1, v682.1.2.2) a2 a3).bind fun v695 =>
                       if ¬ (v695.1 = true) then
                        some (.out (.inl ((v682.1.1, v682.1.2.1, v682.1.2.2))))
                       else
                        (
                         ck (inR .i64 (s461.2.2.2.2.2.2.2 + 1)) <|
                         some (.go (v682.1.1, v682.1.2.1, v682.1.2.2, v695.2.1, v695.2.2.1, v695.2.2.2.1, v695.2.2.2.2, s461.2.2.2.2.2.2.2 + 1))
                        )
                      )
                    )
                  )
                 else
                  some (.out (.inr ((s461.1, s461.2.1, s461.2.2.1))))
                )
               else
                some (.out (.inr ((s461.1, s461.2.1, s461.2.2.1))))
              ) (([] : List ByteArray), 0, a0, a0, [], 0, 0, 0)).bind fun o624 =>
             sm o624 (fun o704 =>
               some false
              ) (fun o709 =>
               k458 (o709.1, o709.2.1, o709.2.2)
              )
           ) (fun v457 =>
            some true
           )
          )
        )
      )
    )
  )
noncomputable def k3 : Eng.CS := { f := 3, calm := true, more := 0, ι := Int × (List (Int × Int × Int × ((Option Addr × Nat) × List ByteArray))) × Int × Int × Bool, ok := fun i => g3 i.1 i.2.1 i.2.2.1 i.2.2.2.1 = some i.2.2.2.2 ∧ (∀ p ∈ i.2.1, cap34 p), rds := fun i => (i.2.1).flatMap R34, args := fun i => [.w (.v (.int .i64 (i.1))), .sl 4 i.2.1.length (ec c34 i.2.1), .w (.v (.int .i64 (i.2.2.1))), .w (.v (.int .u8 (i.2.2.2.1)))], res := fun i => bS i.2.2.2.2 }
set_option maxRecDepth 8000 in
set_option maxHeartbeats 4000000 in
theorem k3_ok : CalmOk Tryz.prog k3 := by
 refine R.calmspec Tryz.func3 nm3 rfl ?_
 rintro ⟨a0, a1, a2, a3, r⟩ ⟨hok, hcap⟩ q hrds args hargs
 have hin1 : ∀ p ∈ a1, P34 q p := P34.of hrds hcap
 match args, hargs with
 | [_, _, _, _], hargs =>
 obtain ⟨rfl, ⟨A1, cp1, rfl, hc1, _, hR1⟩, rfl, rfl, _⟩ := hargs
 refine ⟨envC [k6, k8, k9, k13, k16, k39] false [(3, 14)], 6, envC_ok (css_cons ⟨fun _ => k6_ok, fun h => (by cases h)⟩ (css_cons ⟨fun h => (by cases h), fun _ => k8_ok⟩ (css_cons ⟨fun h => (by cases h), fun _ => k9_ok⟩ (css_cons ⟨fun h => (by cases h), fun _ => k13_ok⟩ (css_cons ⟨fun _ => k16_ok, fun h => (by cases h)⟩ (css_cons ⟨fun _ => k39_ok, fun h => (by cases h)⟩ (css_nil))))))), rfl, (by intro x hx; simp only [List.mem_cons, List.not_mem_nil, or_false] at hx; rcases hx with rfl | rfl | rfl | rfl <;> rfl), ?_⟩
 have H : Gives (g3 a0 a1 a2 a3) (fun a => a = r) := ⟨r, hok, rfl⟩
 unfold g3 at H
 clear hok
 refine if_st H (fun h4 H => ?_) (fun h4 H => ?_)
 ·refine if_st H (fun h8 H => ?_) (fun h8 H => ?_)
  ·refine And.intro (fun h => absurd h (by decide)) (fun _ => ?_)
   refine And.intro (fun h => absurd h (by decide)) (fun _ => ?_)
   obtain ⟨v11, hv12, H⟩ := call_st H
   refine ⟨v11, ⟨hv12⟩, ⟨trivial⟩, ?_⟩
   refine if_st H (fun h13 H => ?_) (fun h13 H => ?_)
   ·have hfin := fin_st H
    repeat refine mf1ZR5 ?_
    first | exact trivial | exact rfl
   ·refine R.cut_fam H 66 [] [] (fun v23 => []) (fun v23 => []) [(26, .cells 29 [.v (.slice none 0 0), .v (.int .i64 (0)), .v (.int .i64 (0))]), (23, .cells 29 [.v (.slice none 0 0), .v (.int .i64 (0)), .v (.int .i64 (0))])] 0 (fun H => ?_)
    refine And.intro ?_ ?_
    ·refine R.loop_fam (bind_st H) [1, 2, 3, 9, 11, 13] [] (fun _ s27 => []) (fun _ s27 => []) 0 (fun n32 H => ?_)
     refine ⟨(n32, _), ⟨H⟩, ⟨trivial⟩, ?_⟩
     repeat refine mo1ZR5 ?_
     rintro ⟨m0, s27⟩ H _
     obtain ⟨m28, hm0, H⟩ := IG_succ H
     dsimp only at hm0
     subst hm0
     try dsimp only at H
     refine if_st H (fun h31 H => ?_) (fun h31 H => ?_)
     ·refine And.intro (fun _ => ?_) (fun h => absurd (by decide) h)
      replace H := some_st H
      dsimp only [stp, sm] at H
      refine ⟨(), ⟨H⟩, ⟨rfl⟩, ?_⟩
      repeat refine mo1ZR5 ?_
      first | exact trivial | exact rfl
     ·replace H := some_st H
      dsimp only [stp, sm] at H
      refine ⟨(), ⟨H⟩, ⟨rfl⟩, ?_⟩
      repeat refine mo1ZR5 ?_
      first | exact trivial | exact rfl
    ·intro v23 H
     have hfin := fin_st H
     repeat refine mf1ZR5 ?_
     first | exact trivial | exact rfl
  ·refine if_st H (fun h33 H => ?_) (fun h33 H => ?_)
   ·refine And.intro (fun h => absurd h (by decide)) (fun _ => ?_)
    refine And.intro (fun h => absurd h (by decide)) (fun _ => ?_)
    obtain ⟨v34, hv35, H⟩ := call_st H
    refine ⟨v34, ⟨hv35⟩, ⟨trivial⟩, ?_⟩
    refine if_st H (fun h36 H => ?_) (fun h36 H => ?_)
    ·have hfin := fin_st H
     repeat refine mf1ZR5 ?_
     first | exact trivial | exact rfl
    ·refine R.cut_fam H 66 [] [] (fun v45 => []) (fun v45 => []) [(26, .cells 29 [.v (.slice none 0 0), .v (.int .i64 (0)), .v (.int .i64 (0))]), (23, .cells 29 [.v (.slice none 0 0), .v (.int .i64 (0)), .v (.int .i64 (0))])] 0 (fun H => ?_)
     refine And.intro ?_ ?_
     ·refine R.loop_fam (bind_st H) [1, 2, 3, 9, 11, 13] [] (fun _ s49 => []) (fun _ s49 => []) 0 (fun n54 H => ?_)
      refine ⟨(n54, _), ⟨H⟩, ⟨trivial⟩, ?_⟩
      repeat refine mo1ZR5 ?_
      rintro ⟨m0, s49⟩ H _
      obtain ⟨m50, hm0, H⟩ := IG_succ H
      dsimp only at hm0
      subst hm0
      try dsimp only at H
      refine if_st H (fun h53 H => ?_) (fun h53 H => ?_)
      ·refine And.intro (fun _ => ?_) (fun h => absurd (by decide) h)
       replace H := some_st H
       dsimp only [stp, sm] at H
       refine ⟨(), ⟨H⟩, ⟨rfl⟩, ?_⟩
       repeat refine mo1ZR5 ?_
       first | exact trivial | exact rfl
      ·replace H := some_st H
       dsimp only [stp, sm] at H
       refine ⟨(), ⟨H⟩, ⟨rfl⟩, ?_⟩
       repeat refine mo1ZR5 ?_
       first | exact trivial | exact rfl
     ·intro v45 H
      have hfin := fin_st H
      repeat refine mf1ZR5 ?_
      first | exact trivial | exact rfl
   ·refine And.intro (fun _ => ?_) (fun h => absurd (by decide) h)
    have hfin := fin_st H
    repeat refine mf1ZR5 ?_
    first | exact trivial | exact rfl
 ·refine if_st H (fun h55 H => ?_) (fun h55 H => ?_)
  ·refine if_st H (fun h56 H => ?_) (fun h56 H => ?_)
   ·refine And.intro (fun h => absurd h (by decide)) (fun _ => ?_)
    refine And.intro (fun h => absurd h (by decide)) (fun _ => ?_)
    obtain ⟨v57, hv58, H⟩ := call_st H
    refine ⟨v57, ⟨hv58⟩, ⟨trivial⟩, ?_⟩
    refine if_st H (fun h59 H => ?_) (fun h59 H => ?_)
    ·have hfin := fin_st H
     repeat refine mf1ZR5 ?_
     first | exact trivial | exact rfl
    ·refine R.cut_fam H 66 [] [] (fun v68 => []) (fun v68 => []) [(26, .cells 29 [.v (.slice none 0 0), .v (.int .i64 (0)), .v (.int .i64 (0))]), (23, .cells 29 [.v (.slice none 0 0), .v (.int .i64 (0)), .v (.int .i64 (0))])] 0 (fun H => ?_)
     refine And.intro ?_ ?_
     ·refine R.loop_fam (bind_st H) [1, 2, 3, 9, 11, 13] [] (fun _ s72 => []) (fun _ s72 => []) 0 (fun n77 H => ?_)
      refine ⟨(n77, _), ⟨H⟩, ⟨trivial⟩, ?_⟩
      repeat refine mo1ZR5 ?_
      rintro ⟨m0, s72⟩ H _
      obtain ⟨m73, hm0, H⟩ := IG_succ H
      dsimp only at hm0
      subst hm0
      try dsimp only at H
      refine if_st H (fun h76 H => ?_) (fun h76 H => ?_)
      ·refine And.intro (fun _ => ?_) (fun h => absurd (by decide) h)
       replace H := some_st H
       dsimp only [stp, sm] at H
       refine ⟨(), ⟨H⟩, ⟨rfl⟩, ?_⟩
       repeat refine mo1ZR5 ?_
       first | exact trivial | exact rfl
      ·replace H := some_st H
       dsimp only [stp, sm] at H
       refine ⟨(), ⟨H⟩, ⟨rfl⟩, ?_⟩
       repeat refine mo1ZR5 ?_
       first | exact trivial | exact rfl
     ·intro v68 H
      have hfin := fin_st H
      repeat refine mf1ZR5 ?_
      first | exact trivial | exact rfl
   ·refine if_st H (fun h78 H => ?_) (fun h78 H => ?_)
    ·refine And.intro (fun h => absurd h (by decide)) (fun _ => ?_)
     refine And.intro (fun h => absurd h (by decide)) (fun _ => ?_)
     obtain ⟨v79, hv80, H⟩ := call_st H
     refine ⟨v79, ⟨hv80⟩, ⟨trivial⟩, ?_⟩
     refine if_st H (fun h81 H => ?_) (fun h81 H => ?_)
     ·have hfin := fin_st H
      repeat refine mf1ZR5 ?_
      first | exact trivial | exact rfl
     ·refine R.cut_fam H 66 [] [] (fun v90 => []) (fun v90 => []) [(26, .cells 29 [.v (.slice none 0 0), .v (.int .i64 (0)), .v (.int .i64 (0))]), (23, .cells 29 [.v (.slice none 0 0), .v (.int .i64 (0)), .v (.int .i64 (0))])] 0 (fun H => ?_)
      refine And.intro ?_ ?_
      ·refine R.loop_fam (bind_st H) [1, 2, 3, 9, 11, 13] [] (fun _ s94 => []) (fun _ s94 => []) 0 (fun n99 H => ?_)
       refine ⟨(n99, _), ⟨H⟩, ⟨trivial⟩, ?_⟩
       repeat refine mo1ZR5 ?_
       rintro ⟨m0, s94⟩ H _
       obtain ⟨m95, hm0, H⟩ := IG_succ H
       dsimp only at hm0
       subst hm0
       try dsimp only at H
       refine if_st H (fun h98 H => ?_) (fun h98 H => ?_)
       ·refine And.intro (fun _ => ?_) (fun h => absurd (by decide) h)
        replace H := some_st H
        dsimp only [stp, sm] at H
        refine ⟨(), ⟨H⟩, ⟨rfl⟩, ?_⟩
        repeat refine mo1ZR5 ?_
        first | exact trivial | exact rfl
       ·replace H := some_st H
        dsimp only [stp, sm] at H
        refine ⟨(), ⟨H⟩, ⟨rfl⟩, ?_⟩
        repeat refine mo1ZR5 ?_
        first | exact trivial | exact rfl
      ·intro v90 H
       have hfin := fin_st H
       repeat refine mf1ZR5 ?_
       first | exact trivial | exact rfl
    ·refine And.intro (fun _ => ?_) (fun h => absurd (by decide) h)
     have hfin := fin_st H
     repeat refine mf1ZR5 ?_
     first | exact trivial | exact rfl
  ·refine if_st H (fun h100 H => ?_) (fun h100 H => ?_)
   ·refine And.intro (fun _ => ?_) (fun h => absurd (by decide) h)
    have hfin := fin_st H
    repeat refine mf1ZR5 ?_
    first | exact trivial | exact rfl
   ·refine if_st H (fun h101 H => ?_) (fun h101 H => ?_)
    ·refine And.intro (fun _ => ?_) (fun h => absurd (by decide) h)
     have hfin := fin_st H
     repeat refine mf1ZR5 ?_
     first | exact trivial | exact rfl
    ·refine And.intro (fun h => absurd h (by decide)) (fun _ => ?_)
     refine And.intro (fun h => absurd h (by decide)) (fun _ => ?_)
     obtain ⟨v102, hv103, H⟩ := call_st H
     refine ⟨v102, ⟨hv103⟩, ⟨trivial⟩, ?_⟩
     refine if_st H (fun h104 H => ?_) (fun h104 H => ?_)
     ·have hfin := fin_st H
      repeat refine mf1ZR5 ?_
      first | exact trivial | exact rfl
     ·refine R.cut_famXG H 73 [] [] [] (fun (v457 : List ByteArray × Int × Int) (g : (Option Addr × Nat)) => []) (fun (v457 : List ByteArray × Int × Int) (g : (Option Addr × Nat)) => [(26, .cells 29 [.v (.slice ((g.1)) (v457.1.length) ((g.2))), .v (.int .i64 (v457.2.1)), .v (.int .i64 (v457.2.2))])]) [(29, .cells 29 [.v (.slice none 0 0), .v (.int .i64 (0)), .v (.int .i64 (a0))])] 0 (fun q (v457 : List ByteArray × Int × Int) (g : (Option Addr × Nat)) => Reads q g.1 (es v457.1) ∧ v457.1.length ≤ g.2) (fun H => ?_)
      refine And.intro ?_ ?_
      ·refine R.loop_famXG (bind_st H) [1, 2, 3, 11] [(9, 1, 9, 1)] [] (fun _ => fun (s461 : List ByteArray × Int × Int × Int × List ByteArray × Int × Int × Int) (g : (Option Addr × Nat)) => [(9, .lp 57 0), (13, .v (.int .i64 (s461.2.2.2.2.2.2.2)))]) (fun _ => fun (s461 : List ByteArray × Int × Int × Int × List ByteArray × Int × Int × Int) (g : (Option Addr × Nat)) => [(26, .cells 29 [.v (.slice ((g.1)) (s461.1.length) ((g.2))), .v (.int .i64 (s461.2.1)), .v (.int .i64 (s461.2.2.1))]), (57, .cells 41 [.v (.int .i64 (s461.2.2.2.1)), .own 58, .v (.int .i64 (s461.2.2.2.2.2.1)), .v (.int .i64 (s461.2.2.2.2.2.2.1))]), (58, .arr 9 1 (s461.2.2.2.2.1.length) (es (s461.2.2.2.2.1)))]) 2 (fun q (s461 : List ByteArray × Int × Int × Int × List ByteArray × Int × Int × Int) (g : (Option Addr × Nat)) => Reads q g.1 (es s461.1) ∧ s461.1.length ≤ g.2) (fun n714 H => ?_)
       refine ⟨(n714, _, (none, 0)), ⟨H⟩, ⟨Reads.nil, Nat.le_refl _⟩, ?_⟩
       repeat refine mo1ZR5 ?_
       rintro q460 hq459 ⟨m0, s461, ⟨A541, c542⟩⟩ H hrd
       obtain ⟨hR543, hc544⟩ := hrd
       obtain ⟨m462, hm0, H⟩ := IG_succ H
       dsimp only at hm0 hR543 hc544
       subst hm0
       try dsimp only at H
       refine if_st H (fun h625 H => ?_) (fun h625 H => ?_)
       ·refine if_st H (fun h626 H => ?_) (fun h626 H => ?_)
        ·refine ob_ix (Reads.mono hq459 hR1) (fun h => ec0 c34_len (by decide) h) H fun h627 H => ?_
         refine ld_int (e := (a1.getD s461.2.2.2.2.2.2.2.toNat default).1) (rd_get (Reads.mono hq459 hR1) ((ec_get (i := s461.2.2.2.2.2.2.2.toNat) (o := 0) c34_len (tn h627) (by decide)).trans rfl)) ?_
         refine And.intro ⟨by decide⟩ ?_
         refine if_st H (fun h628 H => ?_) (fun h628 H => ?_)
         ·obtain ⟨v629, hv630, H⟩ := call_st H
          refine ⟨((s461.2.2.2.1, s461.2.2.2.2.1, s461.2.2.2.2.2.1, s461.2.2.2.2.2.2.1), v629), ⟨hv630⟩, ⟨trivial⟩, ?_⟩
          iterate 4 refine mo1ZR5 ?_
          refine if_st H (fun h631 H => ?_) (fun h631 H => ?_)
          ·obtain ⟨v632, hv633, H⟩ := call_st H
           refine ⟨((s461.2.2.2.1, s461.2.2.2.2.1, s461.2.2.2.2.2.1, s461.2.2.2.2.2.2.1), v632), ⟨hv633⟩, ⟨trivial⟩, ?_⟩
           iterate 4 refine mo1ZR5 ?_
           obtain ⟨v634, hv635, H⟩ := call_st H
           refine ⟨((s461.2.2.2.1, s461.2.2.2.2.1, s461.2.2.2.2.2.1, s461.2.2.2.2.2.2.1), 0, v632, v634), ⟨hv635⟩, ⟨trivial⟩, ?_⟩
           iterate 3 refine And.intro ⟨rfl⟩ ?_
           iterate 4 refine mo1ZR5 ?_
           intro q636 g637 hq638 hok639 hrd640
           obtain ⟨A641, c642⟩ := g637
           have hc643 := hok639
           obtain ⟨hR644, _⟩ := hrd640
           try dsimp only at hc643 hR644
           replace H := some_st H
           dsimp only [stp, sm] at H
           have hfin := fin_st H
           repeat refine mf1ZR5 ?_
           first | exact trivial | exact rfl
          ·refine ob_ck H fun h650 H => ?_
           intro n645 zs647 hn646 hz648
           subst hn646
           have hl649 : (List.replicate ((s461.2.2.2.2.1.length : Nat) : Int).toNat (⟨#[]⟩ : ByteArray)).length = ((s461.2.2.2.2.1.length : Nat) : Int).toNat := List.length_replicate
           obtain rfl : zs647 = es (List.replicate ((s461.2.2.2.2.1.length : Nat) : Int).toNat (⟨#[]⟩ : ByteArray)) := hz648.trans es_rep.symm
           refine And.intro ⟨es_one⟩ ?_
           intro r651 n653 zs655 hr652 hn654 hz656
           subst hr652
           subst hn654
           have hl657 : (cpy (List.replicate ((s461.2.2.2.2.1.length : Nat) : Int).toNat (⟨#[]⟩ : ByteArray)) 0 s461.2.2.2.2.1 (min s461.2.2.2.2.1.length (((s461.2.2.2.2.1.length : Nat) : Int).toNat))).length = (List.replicate ((s461.2.2.2.2.1.length : Nat) : Int).toNat (⟨#[]⟩ : ByteArray)).length := len_cpy (by first | omega | (dsimp only; omega)) (by first | omega | (rw [len_vw (by omega)]; omega) | (dsimp only; rw [len_vw (by omega)]; omega))
           obtain rfl : zs655 = es (cpy (List.replicate ((s461.2.2.2.2.1.length : Nat) : Int).toNat (⟨#[]⟩ : ByteArray)) 0 s461.2.2.2.2.1 (min s461.2.2.2.2.1.length (((s461.2.2.2.2.1.length : Nat) : Int).toNat))) := hz656.trans es_cpy0.symm
           refine And.intro ⟨by kernel_rfl⟩ ?_
           refine ⟨(Pn.calm 0 (Pn.calm 1 (Pn.calm 2 (Pn.calm 3 (Pn.calm 4 (Pn.calm 5 (Pn.calm 6 (Pn.calm 7 (Pn.calm 8 (Pn.calm 9 (Pn.calm 10 (Pn.calm 11 (Pn.calm 12 (Pn.calm 13 (Pn.eff 14 [13, 3, 4, 8, 12, 2, 7, 11, 1, 6, 10, 0, 5, 9] (Pn.calm 15 Pn.done) Pn.no))))))))))))))), ⟨by kernel_rfl⟩, ?_⟩
           refine And.intro ?_ trivial
           refine And.intro ⟨fun _ _ _ h => h⟩ ?_
           obtain ⟨v658, hv659, H⟩ := call_st H
           refine ⟨((s461.2.2.2.1, s461.2.2.2.2.1, s461.2.2.2.2.2.1, s461.2.2.2.2.2.2.1), v658), ⟨hv659⟩, ⟨trivial⟩, ?_⟩
           iterate 4 refine mo1ZR5 ?_
           obtain ⟨v660, hv661, H⟩ := call_st H
           refine ⟨((s461.2.2.2.1, s461.2.2.2.2.1, s461.2.2.2.2.2.1, s461.2.2.2.2.2.2.1), 0, v658, v660), ⟨hv661⟩, ⟨trivial⟩, ?_⟩
           iterate 3 refine And.intro ⟨rfl⟩ ?_
           iterate 4 refine mo1ZR5 ?_
           intro q662 g663 hq664 hok665 hrd666
           obtain ⟨A667, c668⟩ := g663
           have hc669 := hok665
           obtain ⟨hR670, _⟩ := hrd666
           try dsimp only at hc669 hR670
           refine ob_ck H fun h671 H => ?_
           obtain ⟨v672, hv673, H⟩ := call_st H
           refine ⟨((s461.2.2.2.1, (cpy (List.replicate ((s461.2.2.2.2.1.length : Nat) : Int).toNat (⟨#[]⟩ : ByteArray)) 0 s461.2.2.2.2.1 (min s461.2.2.2.2.1.length (((s461.2.2.2.2.1.length : Nat) : Int).toNat))), s461.2.2.2.2.2.1, s461.2.2.2.2.2.2.1), (s461.1, s461.2.1, s461.2.2.1), a2, a3, v672, (A541, c542)), ⟨hv673, hc544⟩, ⟨⟨(Reads.mono hq664 hR543), trivial⟩⟩, ?_⟩
           iterate 6 refine And.intro ⟨rfl⟩ ?_
           iterate 4 refine mo1ZR5 ?_
           intro q674 g675 hq676 hok677 hrd678
           refine if_st H (fun h679 H => ?_) (fun h679 H => ?_)
           ·replace H := some_st H
            dsimp only [stp, sm] at H
            have hfin := fin_st H
            repeat refine mf1ZR5 ?_
            first | exact trivial | exact rfl
           ·refine ob_ck H fun h680 H => ?_
            replace H := some_st H
            refine ⟨(m462, (s461.1, s461.2.1, s461.2.2.1, v672.2.1, v672.2.2.1, v672.2.2.2.1, v672.2.2.2.2, s461.2.2.2.2.2.2.2 + 1), (A541, c542)), ⟨H, Nat.lt_succ_self _⟩, ⟨(Reads.mono hq676 (Reads.mono hq664 hR543)), hc544⟩, ⟨fun _ _ _ h => (hq676 _ _ _ (hq664 _ _ _ (hq459 _ _ _ h)))⟩, ?_⟩
            repeat refine mo1ZR5 ?_
            first | exact trivial | exact rfl
         ·refine And.intro ⟨by kernel_rfl⟩ ?_
          refine ⟨(Pn.calm 0 (Pn.calm 1 (Pn.calm 2 (Pn.calm 3 (Pn.calm 4 (Pn.calm 5 (Pn.eff 6 [0, 1, 5, 4, 2, 3] (Pn.calm 7 (Pn.calm 8 (Pn.calm 9 (Pn.eff 10 [8, 6, 0, 1, 2, 3, 4, 5, 7] (Pn.calm 11 Pn.done) Pn.no)))) Pn.no))))))), ⟨by kernel_rfl⟩, ?_⟩
          refine ob_ix (Reads.mono hq459 hR1) (fun h => ec0 c34_len (by decide) h) H fun h681 H => ?_
          refine ld_int (e := (a1.getD s461.2.2.2.2.2.2.2.toNat default).1) (rd_get (Reads.mono hq459 hR1) ((ec_get (i := s461.2.2.2.2.2.2.2.toNat) (o := 0) c34_len (tn h681) (by decide)).trans rfl)) ?_
          refine ld_int (e := (a1.getD s461.2.2.2.2.2.2.2.toNat default).2.1) (rd_get (Reads.mono hq459 hR1) ((ec_get (i := s461.2.2.2.2.2.2.2.toNat) (o := 1) c34_len (tn h681) (by decide)).trans rfl)) ?_
          refine ld_int (e := (a1.getD s461.2.2.2.2.2.2.2.toNat default).2.2.1) (rd_get (Reads.mono hq459 hR1) ((ec_get (i := s461.2.2.2.2.2.2.2.toNat) (o := 2) c34_len (tn h681) (by decide)).trans rfl)) ?_
          refine ld_sl (A := (a1.getD s461.2.2.2.2.2.2.2.toNat default).2.2.2.1.1) (n := (a1.getD s461.2.2.2.2.2.2.2.toNat default).2.2.2.2.length) (c := (a1.getD s461.2.2.2.2.2.2.2.toNat default).2.2.2.1.2) (rd_get (Reads.mono hq459 hR1) ((ec_get (i := s461.2.2.2.2.2.2.2.toNat) (o := 3) c34_len (tn h681) (by decide)).trans rfl)) ?_
          refine And.intro ?_ trivial
          obtain ⟨v682, hv683, H⟩ := call_st H
          refine ⟨((s461.2.2.2.1, s461.2.2.2.2.1, s461.2.2.2.2.2.1, s461.2.2.2.2.2.2.1), (s461.1, s461.2.1, s461.2.2.1), ((a1.getD s461.2.2.2.2.2.2.2.toNat default).1, (a1.getD s461.2.2.2.2.2.2.2.toNat default).2.1, (a1.getD s461.2.2.2.2.2.2.2.toNat default).2.2.1, (a1.getD s461.2.2.2.2.2.2.2.toNat default).2.2.2.2), v682, ((A541, c542), ((a1.getD s461.2.2.2.2.2.2.2.toNat default).2.2.2.1.1, (a1.getD s461.2.2.2.2.2.2.2.toNat default).2.2.2.1.2))), ⟨hv683, hc544, ((fun p hp => P34.mono hq459 (hin1 p hp)) _ (getD_mem (tn h681))).2⟩, ⟨⟨hR543, ((fun p hp => P34.mono hq459 (hin1 p hp)) _ (getD_mem (tn h681))).1, trivial⟩⟩, ?_⟩
          iterate 8 refine And.intro ⟨rfl⟩ ?_
          iterate 4 refine mo1ZR5 ?_
          intro q684 g685 hq686 hok687 hrd688
          obtain ⟨A689, c690⟩ := g685
          have hc691 := hok687
          obtain ⟨hR692, _⟩ := hrd688
          try dsimp only at hc691 hR692
          refine And.intro ⟨fun _ _ _ h => (hq686 _ _ _ h)⟩ ?_
          refine And.intro ?_ trivial
          refine And.intro ⟨fun _ _ _ h => h⟩ ?_
          refine if_st H (fun h693 H => ?_) (fun h693 H => ?_)
          ·replace H := some_st H
           dsimp only [stp, sm] at H
           have hfin := fin_st H
           repeat refine mf1ZR5 ?_
           first | exact trivial | exact rfl
          ·refine ob_ck H fun h694 H => ?_
           obtain ⟨v695, hv696, H⟩ := call_st H
           refine ⟨((v682.2.2.1, v682.2.2.2.1, v682.2.2.2.2.1, v682.2.2.2.2.2), (v682.1.1, v682.1.2.1, v682.1.2.2), a2, a3, v695, (A689, c690)), ⟨hv696, hc691⟩, ⟨⟨hR692, trivial⟩⟩, ?_⟩
           iterate 6 refine And.intro ⟨rfl⟩ ?_
           iterate 4 refine mo1ZR5 ?_
           intro q697 g698 hq699 hok700 hrd701
           refine if_st H (fun h702 H => ?_) (fun h702 H => ?_)
           ·replace H := some_st H
            dsimp only [stp, sm] at H
            have hfin := fin_st H
            repeat refine mf1ZR5 ?_
            first | exact trivial | exact rfl
           ·refine ob_ck H fun h703 H => ?_
            replace H := some_st H
            refine ⟨(m462, (v682.1.1, v682.1.2.1, v682.1.2.2, v695.2.1, v695.2.2.1, v695.2.2.2.1, v695.2.2.2.2, s461.2.2.2.2.2.2.2 + 1), (A689, c690)), ⟨H, Nat.lt_succ_self _⟩, ⟨(Reads.mono hq699 hR692), hc691⟩, ⟨fun _ _ _ h => (hq699 _ _ _ (hq686 _ _ _ (hq459 _ _ _ h)))⟩, ?_⟩
            repeat refine mo1ZR5 ?_
            first | exact trivial | exact rfl
        ·replace H := some_st H
         dsimp only [stp, sm] at H
         refine ⟨((s461.1, s461.2.1, s461.2.2.1), (A541, c542)), ⟨H, hR543, hc544⟩, ⟨fun _ _ _ h => (hq459 _ _ _ h)⟩, ?_⟩
         repeat refine mo1ZR5 ?_
         first | exact trivial | exact rfl
       ·replace H := some_st H
        dsimp only [stp, sm] at H
        refine ⟨((s461.1, s461.2.1, s461.2.2.1), (A541, c542)), ⟨H, hR543, hc544⟩, ⟨fun _ _ _ h => (hq459 _ _ _ h)⟩, ?_⟩
        repeat refine mo1ZR5 ?_
        first | exact trivial | exact rfl
      ·rintro q456 hq455 ⟨v457, ⟨A715, c716⟩⟩ ⟨H, hR717, hc718⟩
       dsimp only at H hR717 hc718
       have hfin := fin_st H
       repeat refine mf1ZR5 ?_
       first | exact trivial | exact rfl
end Go.Proofs.YtenjkphlbdhaiaaGreat
end
