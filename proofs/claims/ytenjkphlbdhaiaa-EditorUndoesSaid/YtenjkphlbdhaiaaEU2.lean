/-
  Texts that the law leans on. Nothing here is trusted.
-/
import Derived.Test.YtenjkphlbdhaiaaEU1
import Derived.Test.YtenjkphlbdhaiaaBldB
import Derived.Test.YtenjkphlbdhaiaaEngLd
set_option linter.unusedVariables false
set_option linter.unusedSimpArgs false
section
namespace Go.Proofs.Ytenjkphlbdhaiaa
open Go Go.Eng
theorem mo1S1 {p q : Prop} (k : q) (h : p := by first | exact rfl | exact Iff.rfl | exact ⟨rfl, rfl⟩ | exact decide_eq_true_iff | (constructor <;> first | exact rfl | (simp only [ei, eb, es, ec, c135, gmin, gmax, List.map_append, List.flatMap_append, List.nil_append, List.append_nil, List.append_assoc]; done) | omega | (simp only [List.nil_append, List.length_append, List.length_cons, List.length_nil]; omega) | (simp [ei, eb, es, ec, c135, gmin, gmax]; done)) | exact rfl | (simp only [ei, eb, es, ec, c135, gmin, gmax, List.map_append, List.flatMap_append, List.nil_append, List.append_nil, List.append_assoc]; done) | omega | (simp only [List.nil_append, List.length_append, List.length_cons, List.length_nil]; omega) | (simp [ei, eb, es, ec, c135, gmin, gmax]; done) | simp [ei, eb, es, ec, c135, gmin, gmax]) : Ob p ∧ q := ⟨⟨h⟩, k⟩
theorem mf1S1 {p q : Prop} (k : q) (h : p := by first | (rw [← hfin] <;> first | exact rfl | exact Iff.rfl | exact ⟨rfl, rfl⟩ | exact decide_eq_true_iff | (constructor <;> first | exact rfl | (simp only [ei, eb, es, ec, c135, gmin, gmax, List.map_append, List.flatMap_append, List.nil_append, List.append_nil, List.append_assoc]; done) | omega | (simp only [List.nil_append, List.length_append, List.length_cons, List.length_nil]; omega) | (simp [ei, eb, es, ec, c135, gmin, gmax]; done)) | exact rfl | (simp only [ei, eb, es, ec, c135, gmin, gmax, List.map_append, List.flatMap_append, List.nil_append, List.append_nil, List.append_assoc]; done) | omega | (simp only [List.nil_append, List.length_append, List.length_cons, List.length_nil]; omega) | (simp [ei, eb, es, ec, c135, gmin, gmax]; done) | simp [ei, eb, es, ec, c135, gmin, gmax]) | first | exact rfl | exact Iff.rfl | exact ⟨rfl, rfl⟩ | exact decide_eq_true_iff | (constructor <;> first | exact rfl | (simp only [ei, eb, es, ec, c135, gmin, gmax, List.map_append, List.flatMap_append, List.nil_append, List.append_nil, List.append_assoc]; done) | omega | (simp only [List.nil_append, List.length_append, List.length_cons, List.length_nil]; omega) | (simp [ei, eb, es, ec, c135, gmin, gmax]; done)) | exact rfl | (simp only [ei, eb, es, ec, c135, gmin, gmax, List.map_append, List.flatMap_append, List.nil_append, List.append_nil, List.append_assoc]; done) | omega | (simp only [List.nil_append, List.length_append, List.length_cons, List.length_nil]; omega) | (simp [ei, eb, es, ec, c135, gmin, gmax]; done) | simp [ei, eb, es, ec, c135, gmin, gmax]) : Ob p ∧ q := ⟨⟨h⟩, k⟩
noncomputable def g54 (a0 : List Int) (a1 : ByteArray) : Option (Int × List Int) :=
 (g92 a0).bind fun v1 =>
 ck (v1.length + a1.size ≤ 140737488355328) <|
 some ((a1.size : Int), (v1 ++ bytesOf a1))
noncomputable def k54 : Eng.CS := { f := 54, calm := false, more := 3, ι := (List Int) × ByteArray × (Int × List Int), ok := fun i => g54 i.1 i.2.1 = some i.2.2, rds := fun _ => [], args := fun i => [.w (.lp 0 0), .w (.v (.string (i.2.1)))], res := fun i => .tup [.v (.int .i64 (i.2.2.1)), .bad], L' := fun i => [(0, .cells 88 [.lq 0, .own 2]), (2, .arr 5 1 i.2.2.2.length (ei .u8 i.2.2.2))], rn := [(100000, 1, 5, 1)], keys := 2, L := fun i => [(0, .cells 88 [.lq 0, .own 1]), (1, .arr 5 1 i.1.length (ei .u8 i.1))] }
set_option maxRecDepth 8000 in
set_option maxHeartbeats 4000000 in
theorem k54_ok : CSOk Try.prog k54 := by
 refine R.cspec Try.func54 nm54 rfl ?_
 rintro ⟨a0, a1, r⟩ hok q _ args hargs
 dsimp only [k54] at hargs ⊢
 match args, hargs with
 | [_, _], hargs =>
 obtain ⟨rfl, rfl, _⟩ := hargs
 refine ⟨envC [k92] false [], 6, envC_ok (css_cons ⟨fun h => (by cases h), fun _ => k92_ok⟩ (css_nil)), ?_⟩
 have H : Gives (g54 a0 a1) (fun a => a = r) := ⟨r, hok, rfl⟩
 unfold g54 at H
 clear hok
 obtain ⟨v1, hv2, H⟩ := call_st H
 refine ⟨(a0, v1), ⟨hv2⟩, ⟨trivial⟩, ?_⟩
 refine And.intro ⟨rfl⟩ ?_
 refine mo1S1 ?_
 refine ob_ck H fun h3 H => ?_
 intro n4 zs6 hn5 hz7
 obtain rfl : n4 = (v1 ++ bytesOf a1).length := hn5.trans (len_appS (xs := v1) (s := a1))
 obtain rfl : zs6 = ei .u8 (v1 ++ bytesOf a1) := hz7.trans (ei_appS (xs := v1) (s := a1))
 have hfin := fin_st H
 repeat refine mf1S1 ?_
 first | exact trivial | exact rfl
noncomputable def g16 (a0 : (Int × List ByteArray × Int × Int)) : Option (ByteArray) :=
 jn (α := _) (β := List Int) (fun k36 =>
   (g11 a0).bind fun v37 =>
   (loopO (σ := List Int × Int) (ρ := List Int) (fun s41 =>
     if s41.2 < ((v37.length : Nat) : Int) then
      (
       ck (0 ≤ s41.2 ∧ s41.2 < ((v37.length : Nat) : Int)) <|
       (g54 s41.1 (v37.getD s41.2.toNat default)).bind fun v56 =>
       ck (inR .i64 (s41.2 + 1)) <|
       some (.go (v56.2, s41.2 + 1))
      )
     else
      some (.out s41.1)
    ) ([], 0)).bind fun o53 =>
    k36 o53
 ) (fun v35 =>
  (g55 v35).bind fun v60 =>
  some v60
 )
noncomputable def k16 : Eng.CS := { f := 16, calm := true, more := 0, ι := (Int × List ByteArray × Int × Int) × ByteArray, ok := fun i => g16 i.1 = some i.2, rds := fun _ => [], args := fun i => [.pt [.w (.int .i64 i.1.1), .row 1 i.1.2.1.length (es i.1.2.1), .w (.int .i64 i.1.2.2.1), .w (.int .i64 i.1.2.2.2)]], res := fun i => .v (.string (i.2)) }
set_option maxRecDepth 8000 in
set_option maxHeartbeats 4000000 in
theorem k16_ok : CalmOk Try.prog k16 := by
 refine R.calmspec Try.func16 nm16 rfl ?_
 rintro ⟨a0, r⟩ hok q _ args hargs
 dsimp only [k16] at hargs ⊢
 match args, hargs with
 | [_], hargs =>
 obtain ⟨⟨P0, us0, rfl, hs0, _, hR0, hpc0⟩, _⟩ := hargs
 match us0, hR0, hpc0 with
 | [_, _, _, _], hR0, hpc0 =>
 obtain ⟨rfl, ⟨A0_1, c0_1, rfl, hcr0_1, _, hRr0_1⟩, rfl, rfl, _⟩ := hpc0
 refine ⟨envC [k11, k54, k55] false [(16, 5)], 6, envC_ok (css_cons ⟨fun h => (by cases h), fun _ => k11_ok⟩ (css_cons ⟨fun h => (by cases h), fun _ => k54_ok⟩ (css_cons ⟨fun h => (by cases h), fun _ => k55_ok⟩ (css_nil)))), rfl, (by intro x hx; simp only [List.mem_cons, List.not_mem_nil, or_false] at hx; rcases hx with rfl <;> rfl), ?_⟩
 have H : Gives (g16 a0) (fun a => a = r) := ⟨r, hok, rfl⟩
 unfold g16 at H
 clear hok
 refine R.cut_fam H 21 [3] [] (fun v35 => []) (fun v35 => [(1, .cells 88 [.lq 1, .own 21]), (21, .arr 5 1 (v35.length) (ei .u8 (v35)))]) [] 1 (fun H => ?_)
 refine And.intro ?_ ?_
 ·obtain ⟨v37, hv38, H⟩ := call_st H
  refine ⟨(a0, v37), ⟨hv38⟩, ⟨trivial⟩, ?_⟩
  refine And.intro ⟨hs0, _, rfl, hR0, rfl, ⟨_, _, rfl, hcr0_1, es_len.trans (Nat.mul_one _).symm, hRr0_1⟩, rfl, rfl, trivial⟩ ?_
  refine R.loop_fam (bind_st H) [0, 6, 7] [(100001, 1, 5, 1)] (fun _ s41 => [(8, .v (.int .i64 (s41.2)))]) (fun _ s41 => [(1, .cells 88 [.lq 1, .own 16]), (16, .arr 5 1 (s41.1.length) (ei .u8 (s41.1)))]) 1 (fun n59 H => ?_)
  refine ⟨(n59, _), ⟨H⟩, ⟨trivial⟩, ?_⟩
  repeat refine mo1S1 ?_
  rintro ⟨m0, s41⟩ H _
  obtain ⟨m42, hm0, H⟩ := IG_succ H
  dsimp only at hm0
  subst hm0
  try dsimp only at H
  refine if_st H (fun h54 H => ?_) (fun h54 H => ?_)
  ·refine ob_ck H fun h55 H => ?_
   refine ld_str (e := v37.getD s41.2.toNat default) (own_get (ys := es v37) (by first | rfl | simp [ei, eb, es, ec, c135]) (es_get (l := v37) (by first | exact tn h55 | (have := tn h55; simp at this ⊢; omega) | (have := tn h55; simp; omega)))) ?_
   obtain ⟨v56, hv57, H⟩ := call_st H
   refine ⟨(s41.1, v37.getD s41.2.toNat default, v56), ⟨hv57⟩, ⟨trivial⟩, ?_⟩
   iterate 2 refine And.intro ⟨rfl⟩ ?_
   refine mo1S1 ?_
   refine ob_ck H fun h58 H => ?_
   replace H := some_st H
   refine ⟨(m42, (v56.2, s41.2 + 1)), ⟨H, Nat.lt_succ_self _⟩, ⟨trivial⟩, ⟨rfl⟩, ?_⟩
   repeat refine mo1S1 ?_
   first | exact trivial | exact rfl
  ·replace H := some_st H
   dsimp only [stp, sm] at H
   refine ⟨s41.1, ⟨H⟩, ⟨rfl⟩, ?_⟩
   repeat refine mo1S1 ?_
   first | exact trivial | exact rfl
 ·intro v35 H
  obtain ⟨v60, hv61, H⟩ := call_st H
  refine ⟨(v35, v60), ⟨hv61⟩, ⟨trivial⟩, ?_⟩
  refine And.intro ⟨rfl⟩ ?_
  refine mo1S1 ?_
  have hfin := fin_st H
  repeat refine mf1S1 ?_
  first | exact trivial | exact rfl
end Go.Proofs.Ytenjkphlbdhaiaa
end
section
namespace Go.Proofs.Ytenjkphlbdhaiaa
open Go Go.Eng
noncomputable def g17  : Option (Bool) :=
 (g21 (3, [], 0, 0) ([(lit [97]), (lit [98])])).bind fun v1 =>
 (g12 (v1.2.1, v1.2.2.1, v1.2.2.2.1, v1.2.2.2.2) 1).bind fun v3 =>
 (g21 (v3.2.1, v3.2.2.1, v3.2.2.2.1, v3.2.2.2.2) ([(lit [99])])).bind fun v5 =>
 (g21 (v5.2.1, v5.2.2.1, v5.2.2.2.1, v5.2.2.2.2) ([(lit [100])])).bind fun v7 =>
 (g16 (v7.2.1, v7.2.2.1, v7.2.2.2.1, v7.2.2.2.2)).bind fun v9 =>
 jn (α := _) (β := Int × List ByteArray × Int × Int × List ByteArray) (fun k87 =>
   (g47 (v7.2.1, v7.2.2.1, v7.2.2.2.1, v7.2.2.2.2)).bind fun v88 =>
   if ¬ (v88 = true) then
    k87 (v7.2.1, v7.2.2.1, v7.2.2.2.1, v7.2.2.2.2, ([] : List ByteArray))
   else
    (
     (g49 (v7.2.1, v7.2.2.1, v7.2.2.2.1, v7.2.2.2.2) 0).bind fun v91 =>
     (g49 (v7.2.1, v7.2.2.1, v7.2.2.2.1, v7.2.2.2.2) 2).bind fun v93 =>
     if v93 ≤ v91 then
      k87 (v7.2.1, v7.2.2.1, v7.2.2.2.1, v7.2.2.2.2, ([] : List ByteArray))
     else
      (
       (g11 (v7.2.1, v7.2.2.1, v7.2.2.2.1, v7.2.2.2.2)).bind fun v96 =>
       ck (0 ≤ v91 ∧ v91 ≤ v93 ∧ v93 ≤ v93 ∧ v93 ≤ ((v96.length : Nat) : Int)) <|
       (g12 (v7.2.1, v7.2.2.1, v7.2.2.2.1, v7.2.2.2.2) v91).bind fun v101 =>
       ck (inR .i64 (v93 - v91)) <|
       ck (inR .i64 (v101.2.2.2.2 + (v93 - v91))) <|
       if v93 ≤ v7.2.2.2.1 then
        (
         ck (inR .i64 (v93 - v91)) <|
         ck (inR .i64 (v7.2.2.2.1 - (v93 - v91))) <|
         (g12 (v101.2.1, v101.2.2.1, v101.2.2.2.1, v101.2.2.2.2 + (v93 - v91)) (v7.2.2.2.1 - (v93 - v91))).bind fun v108 =>
         k87 (v108.2.1, v108.2.2.1, v108.2.2.2.1, v108.2.2.2.2, ((v96.drop v91.toNat).take (v93.toNat - v91.toNat)))
        )
       else
        (
         if v7.2.2.2.1 < v91 then
          (
           (g12 (v101.2.1, v101.2.2.1, v101.2.2.2.1, v101.2.2.2.2 + (v93 - v91)) v7.2.2.2.1).bind fun v123 =>
           k87 (v123.2.1, v123.2.2.1, v123.2.2.2.1, v123.2.2.2.2, ((v96.drop v91.toNat).take (v93.toNat - v91.toNat)))
          )
         else
          k87 (v101.2.1, v101.2.2.1, v101.2.2.2.1, v101.2.2.2.2 + (v93 - v91), ((v96.drop v91.toNat).take (v93.toNat - v91.toNat)))
        )
      )
    )
 ) (fun v86 =>
  if v1.1 = 0 then
   (
    if v3.1 = 1 then
     (
      if v5.1 = 0 then
       (
        if v7.1 = 3 then
         (
          if v9.data.toList = (lit [97, 99, 98]).data.toList then
           (
            if ((v86.2.2.2.2.length : Nat) : Int) = 2 then
             (
              ck (0 ≤ (1 : Int) ∧ 1 < ((v86.2.2.2.2.length : Nat) : Int)) <|
              if (v86.2.2.2.2.getD (1 : Int).toNat default).data.toList = (lit [99]).data.toList then
               (
                (g13 (v86.1, v86.2.1, v86.2.2.1, v86.2.2.2.1)).bind fun v161 =>
                if v161 = 0 then
                 (
                  (g16 (v86.1, v86.2.1, v86.2.2.1, v86.2.2.2.1)).bind fun v164 =>
                  some (decide (v164.data.toList = (lit [98]).data.toList))
                 )
                else
                 some false
               )
              else
               some false
             )
            else
             some false
           )
          else
           some false
         )
        else
         some false
       )
      else
       some false
     )
    else
     some false
   )
  else
   some false
 )
end Go.Proofs.Ytenjkphlbdhaiaa
end
section
namespace Go.Proofs.Ytenjkphlbdhaiaa
open Go Go.Eng
noncomputable def g3 (a0 : ByteArray) (a1 : Int) (a2 : List Int) : Option (Bool) :=
 jn (α := _) (β := ByteArray) (fun k6 =>
   if 200 < (a0.size : Int) then
    (
     ck (0 ≤ (0 : Int) ∧ (0 : Int) ≤ (200 : Int) ∧ (200 : Int) ≤ (a0.size : Int)) <|
     k6 (a0.extract (0 : Int).toNat (200 : Int).toNat)
    )
   else
    k6 a0
 ) (fun v5 =>
  (g15 v5).bind fun v18 =>
  (g21 (300, [], 0, 0) v18).bind fun v20 =>
  if ¬ v20.1 = 0 then
   some false
  else
   (
    (g12 (v20.2.1, v20.2.2.1, v20.2.2.2.1, v20.2.2.2.2) a1).bind fun v23 =>
    (g11 (v23.2.1, v23.2.2.1, v23.2.2.2.1, v23.2.2.2.2)).bind fun v25 =>
    jn (α := _) (β := Int × List ByteArray × Int × Int) (fun k106 =>
      (loopO (σ := Int × List ByteArray × Int × Int × Int) (ρ := (Int × List ByteArray × Int × Int) ⊕ (Int × List ByteArray × Int × Int)) (fun s109 =>
        if s109.2.2.2.2 < ((a2.length : Nat) : Int) then
         (
          if s109.2.2.2.2 < 40 then
           (
            ck (0 ≤ s109.2.2.2.2 ∧ s109.2.2.2.2 < ((a2.length : Nat) : Int)) <|
            (g12 (s109.1, s109.2.1, s109.2.2.1, s109.2.2.2.1) (a2.getD s109.2.2.2.2.toNat 0)).bind fun v146 =>
            (g13 (v146.2.1, v146.2.2.1, v146.2.2.2.1, v146.2.2.2.2)).bind fun v148 =>
            if ¬ v146.1 = v148 then
             some (.out (.inl ((v146.2.1, v146.2.2.1, v146.2.2.2.1, v146.2.2.2.2))))
            else
             (
              ck (0 ≤ s109.2.2.2.2 ∧ s109.2.2.2.2 < ((a2.length : Nat) : Int)) <|
              if ¬ v146.1 = (gmax 0 (gmin (a2.getD s109.2.2.2.2.toNat 0) ((v25.length : Nat) : Int))) then
               some (.out (.inl ((v146.2.1, v146.2.2.1, v146.2.2.2.1, v146.2.2.2.2))))
              else
               (
                (g11 (v146.2.1, v146.2.2.1, v146.2.2.2.1, v146.2.2.2.2)).bind fun v153 =>
                (g14 v153 v25).bind fun v155 =>
                if ¬ (v155 = true) then
                 some (.out (.inl ((v146.2.1, v146.2.2.1, v146.2.2.2.1, v146.2.2.2.2))))
                else
                 (
                  ck (inR .i64 (s109.2.2.2.2 + 1)) <|
                  some (.go (v146.2.1, v146.2.2.1, v146.2.2.2.1, v146.2.2.2.2, s109.2.2.2.2 + 1))
                 )
               )
             )
           )
          else
           some (.out (.inr ((s109.1, s109.2.1, s109.2.2.1, s109.2.2.2.1))))
         )
        else
         some (.out (.inr ((s109.1, s109.2.1, s109.2.2.1, s109.2.2.2.1))))
       ) (v23.2.1, v23.2.2.1, v23.2.2.2.1, v23.2.2.2.2, 0)).bind fun o142 =>
      sm o142 (fun o159 =>
        some false
       ) (fun o160 =>
        k106 (o160.1, o160.2.1, o160.2.2.1, o160.2.2.2)
       )
    ) (fun v105 =>
     (g16 (v105.1, v105.2.1, v105.2.2.1, v105.2.2.2)).bind fun v162 =>
     (g15 v162).bind fun v164 =>
     (g14 v164 v25).bind fun v166 =>
     if v166 = true then
      (
       (g17).bind fun v169 =>
       some v169
      )
     else
      some false
    )
   )
 )
noncomputable def k3 : Eng.CS := { f := 3, calm := true, more := 0, ι := ByteArray × Int × (List Int) × Bool, ok := fun i => g3 i.1 i.2.1 i.2.2.1 = some i.2.2.2, rds := fun _ => [], args := fun i => [.w (.v (.string (i.1))), .w (.v (.int .i64 (i.2.1))), .sl 1 i.2.2.1.length (ei .i64 i.2.2.1)], res := fun i => bS i.2.2.2 }
end Go.Proofs.Ytenjkphlbdhaiaa
end
section
namespace Go.Proofs.Ytenjkphlbdhaiaa
open Go Go.Eng
theorem mf1G4 {p q : Prop} (k : q) (h : p := by first | (rw [← hfin] <;> first | exact rfl | exact Iff.rfl | exact ⟨rfl, rfl⟩ | exact decide_eq_true_iff | (constructor <;> first | exact rfl | (simp only [ei, eb, es, ec, c135, gmin, gmax, List.map_append, List.flatMap_append, List.nil_append, List.append_nil, List.append_assoc]; done) | omega | (simp only [List.nil_append, List.length_append, List.length_cons, List.length_nil]; omega) | (simp [ei, eb, es, ec, c135, gmin, gmax]; done)) | exact rfl | (simp only [ei, eb, es, ec, c135, gmin, gmax, List.map_append, List.flatMap_append, List.nil_append, List.append_nil, List.append_assoc]; done) | omega | (simp only [List.nil_append, List.length_append, List.length_cons, List.length_nil]; omega) | (simp [ei, eb, es, ec, c135, gmin, gmax]; done) | simp [ei, eb, es, ec, c135, gmin, gmax]) | first | exact rfl | exact Iff.rfl | exact ⟨rfl, rfl⟩ | exact decide_eq_true_iff | (constructor <;> first | exact rfl | (simp only [ei, eb, es, ec, c135, gmin, gmax, List.map_append, List.flatMap_append, List.nil_append, List.append_nil, List.append_assoc]; done) | omega | (simp only [List.nil_append, List.length_append, List.length_cons, List.length_nil]; omega) | (simp [ei, eb, es, ec, c135, gmin, gmax]; done)) | exact rfl | (simp only [ei, eb, es, ec, c135, gmin, gmax, List.map_append, List.flatMap_append, List.nil_append, List.append_nil, List.append_assoc]; done) | omega | (simp only [List.nil_append, List.length_append, List.length_cons, List.length_nil]; omega) | (simp [ei, eb, es, ec, c135, gmin, gmax]; done) | simp [ei, eb, es, ec, c135, gmin, gmax]) : Ob p ∧ q := ⟨⟨h⟩, k⟩
noncomputable def g62 (a0 : (Int × List ByteArray × Int × Int)) (a1 : Int) : Option (Int) :=
 if a1 < a0.2.2.1 then
  some a1
 else
  (
   ck (inR .i64 (a1 + a0.2.2.2)) <|
   ck (inR .i64 ((a1 + a0.2.2.2) - a0.2.2.1)) <|
   some ((a1 + a0.2.2.2) - a0.2.2.1)
  )
noncomputable def k62 : Eng.CS := { f := 62, calm := true, more := 0, ι := (Int × List ByteArray × Int × Int) × Int × Int, ok := fun i => g62 i.1 i.2.1 = some i.2.2, rds := fun _ => [], args := fun i => [.pt [.w (.int .i64 i.1.1), .row 1 i.1.2.1.length (es i.1.2.1), .w (.int .i64 i.1.2.2.1), .w (.int .i64 i.1.2.2.2)], .w (.v (.int .i64 (i.2.1)))], res := fun i => .v (.int .i64 (i.2.2)) }
set_option maxRecDepth 8000 in
set_option maxHeartbeats 4000000 in
theorem k62_ok : CalmOk Try.prog k62 := by
 refine R.calmspec Try.func62 nm62 rfl ?_
 rintro ⟨a0, a1, r⟩ hok q _ args hargs
 dsimp only [k62] at hargs ⊢
 match args, hargs with
 | [_, _], hargs =>
 obtain ⟨⟨P0, us0, rfl, hs0, _, hR0, hpc0⟩, rfl, _⟩ := hargs
 match us0, hR0, hpc0 with
 | [_, _, _, _], hR0, hpc0 =>
 obtain ⟨rfl, ⟨A0_1, c0_1, rfl, hcr0_1, _, hRr0_1⟩, rfl, rfl, _⟩ := hpc0
 refine ⟨envC [] false [], 6, envC_ok (css_nil), rfl, (by intro x hx; simp only [List.mem_cons, List.not_mem_nil, or_false] at hx; rcases hx with rfl | rfl <;> rfl), ?_⟩
 have H : Gives (g62 a0 a1) (fun a => a = r) := ⟨r, hok, rfl⟩
 unfold g62 at H
 clear hok
 refine ob_nc ?_
 refine ld_int (e := a0.2.2.1) (rd_get hR0 rfl) ?_
 refine if_st H (fun h2 H => ?_) (fun h2 H => ?_)
 ·have hfin := fin_st H
  repeat refine mf1G4 ?_
  first | exact trivial | exact rfl
 ·refine And.intro ⟨by kernel_rfl⟩ ?_
  refine ob_nc ?_
  refine ld_int (e := a0.2.2.2) (rd_get hR0 rfl) ?_
  refine ob_ck H fun h3 H => ?_
  refine ob_nc ?_
  refine ld_int (e := a0.2.2.1) (rd_get hR0 rfl) ?_
  refine ob_ck H fun h4 H => ?_
  have hfin := fin_st H
  repeat refine mf1G4 ?_
  first | exact trivial | exact rfl
noncomputable def g59 (a0 : (Int × List ByteArray × Int × Int)) (a1 : Int) : Option (ByteArray) :=
 (g62 a0 a1).bind fun v5 =>
 ck (0 ≤ v5 ∧ v5 < ((a0.2.1.length : Nat) : Int)) <|
 some (a0.2.1.getD v5.toNat default)
noncomputable def k59 : Eng.CS := { f := 59, calm := true, more := 0, ι := (Int × List ByteArray × Int × Int) × Int × ByteArray, ok := fun i => g59 i.1 i.2.1 = some i.2.2, rds := fun _ => [], args := fun i => [.pt [.w (.int .i64 i.1.1), .row 1 i.1.2.1.length (es i.1.2.1), .w (.int .i64 i.1.2.2.1), .w (.int .i64 i.1.2.2.2)], .w (.v (.int .i64 (i.2.1)))], res := fun i => .v (.string (i.2.2)) }
set_option maxRecDepth 8000 in
set_option maxHeartbeats 4000000 in
theorem k59_ok : CalmOk Try.prog k59 := by
 refine R.calmspec Try.func59 nm59 rfl ?_
 rintro ⟨a0, a1, r⟩ hok q _ args hargs
 dsimp only [k59] at hargs ⊢
 match args, hargs with
 | [_, _], hargs =>
 obtain ⟨⟨P0, us0, rfl, hs0, _, hR0, hpc0⟩, rfl, _⟩ := hargs
 match us0, hR0, hpc0 with
 | [_, _, _, _], hR0, hpc0 =>
 obtain ⟨rfl, ⟨A0_1, c0_1, rfl, hcr0_1, _, hRr0_1⟩, rfl, rfl, _⟩ := hpc0
 refine ⟨envC [k62] false [], 6, envC_ok (css_cons ⟨fun _ => k62_ok, fun h => (by cases h)⟩ (css_nil)), rfl, (by intro x hx; simp only [List.mem_cons, List.not_mem_nil, or_false] at hx; rcases hx with rfl | rfl <;> rfl), ?_⟩
 have H : Gives (g59 a0 a1) (fun a => a = r) := ⟨r, hok, rfl⟩
 unfold g59 at H
 clear hok
 refine And.intro ⟨by kernel_rfl⟩ ?_
 refine ob_nc ?_
 refine ld_sl (A := A0_1) (n := a0.2.1.length) (c := c0_1) (rd_get hR0 rfl) ?_
 obtain ⟨v5, hv6, H⟩ := call_st H
 refine ⟨(a0, a1, v5), ⟨hv6⟩, ⟨trivial⟩, ?_⟩
 refine And.intro ⟨hs0, _, rfl, hR0, rfl, ⟨_, _, rfl, hcr0_1, es_len.trans (Nat.mul_one _).symm, hRr0_1⟩, rfl, rfl, trivial⟩ ?_
 refine And.intro ⟨rfl⟩ ?_
 refine ob_ix hRr0_1 (fun h => es0 h) H fun h7 H => ?_
 refine ld_str (e := a0.2.1.getD v5.toNat default) (rd_get hRr0_1 (es_get (l := a0.2.1) (tn h7))) ?_
 have hfin := fin_st H
 repeat refine mf1G4 ?_
 first | exact trivial | exact rfl
noncomputable def g24 (a0 : (Int × List ByteArray × Int × Int)) (a1 : Int) : Option (ByteArray × Bool) :=
 (g47 a0).bind fun v21 =>
 if ¬ (v21 = true) then
  some ((lit []), false)
 else
  (
   if a1 < 0 then
    some ((lit []), false)
   else
    (
     (g48 a0).bind fun v25 =>
     if v25 ≤ a1 then
      some ((lit []), false)
     else
      (
       (g59 a0 a1).bind fun v28 =>
       some (v28, true)
      )
    )
  )
noncomputable def k24 : Eng.CS := { f := 24, calm := true, more := 0, ι := (Int × List ByteArray × Int × Int) × Int × (ByteArray × Bool), ok := fun i => g24 i.1 i.2.1 = some i.2.2, rds := fun _ => [], args := fun i => [.pt [.w (.int .i64 i.1.1), .row 1 i.1.2.1.length (es i.1.2.1), .w (.int .i64 i.1.2.2.1), .w (.int .i64 i.1.2.2.2)], .w (.v (.int .i64 (i.2.1)))], res := fun i => .tup [.v (.string (i.2.2.1)), bS i.2.2.2] }
set_option maxRecDepth 8000 in
set_option maxHeartbeats 4000000 in
theorem k24_ok : CalmOk Try.prog k24 := by
 refine R.calmspec Try.func24 nm24 rfl ?_
 rintro ⟨a0, a1, r⟩ hok q _ args hargs
 dsimp only [k24] at hargs ⊢
 match args, hargs with
 | [_, _], hargs =>
 obtain ⟨⟨P0, us0, rfl, hs0, _, hR0, hpc0⟩, rfl, _⟩ := hargs
 match us0, hR0, hpc0 with
 | [_, _, _, _], hR0, hpc0 =>
 obtain ⟨rfl, ⟨A0_1, c0_1, rfl, hcr0_1, _, hRr0_1⟩, rfl, rfl, _⟩ := hpc0
 refine ⟨envC [k47, k48, k59] false [], 6, envC_ok (css_cons ⟨fun _ => k47_ok, fun h => (by cases h)⟩ (css_cons ⟨fun _ => k48_ok, fun h => (by cases h)⟩ (css_cons ⟨fun _ => k59_ok, fun h => (by cases h)⟩ (css_nil)))), rfl, (by intro x hx; simp only [List.mem_cons, List.not_mem_nil, or_false] at hx; rcases hx with rfl | rfl <;> rfl), ?_⟩
 have H : Gives (g24 a0 a1) (fun a => a = r) := ⟨r, hok, rfl⟩
 unfold g24 at H
 clear hok
 obtain ⟨v21, hv22, H⟩ := call_st H
 refine ⟨(a0, v21), ⟨hv22⟩, ⟨trivial⟩, ?_⟩
 refine And.intro ⟨hs0, _, rfl, hR0, rfl, ⟨_, _, rfl, hcr0_1, es_len.trans (Nat.mul_one _).symm, hRr0_1⟩, rfl, rfl, trivial⟩ ?_
 refine if_st H (fun h23 H => ?_) (fun h23 H => ?_)
 ·have hfin := fin_st H
  repeat refine mf1G4 ?_
  first | exact trivial | exact rfl
 ·refine if_st H (fun h24 H => ?_) (fun h24 H => ?_)
  ·have hfin := fin_st H
   repeat refine mf1G4 ?_
   first | exact trivial | exact rfl
  ·obtain ⟨v25, hv26, H⟩ := call_st H
   refine ⟨(a0, v25), ⟨hv26⟩, ⟨trivial⟩, ?_⟩
   refine And.intro ⟨hs0, _, rfl, hR0, rfl, ⟨_, _, rfl, hcr0_1, es_len.trans (Nat.mul_one _).symm, hRr0_1⟩, rfl, rfl, trivial⟩ ?_
   refine if_st H (fun h27 H => ?_) (fun h27 H => ?_)
   ·have hfin := fin_st H
    repeat refine mf1G4 ?_
    first | exact trivial | exact rfl
   ·obtain ⟨v28, hv29, H⟩ := call_st H
    refine ⟨(a0, a1, v28), ⟨hv29⟩, ⟨trivial⟩, ?_⟩
    refine And.intro ⟨hs0, _, rfl, hR0, rfl, ⟨_, _, rfl, hcr0_1, es_len.trans (Nat.mul_one _).symm, hRr0_1⟩, rfl, rfl, trivial⟩ ?_
    refine And.intro ⟨rfl⟩ ?_
    have hfin := fin_st H
    repeat refine mf1G4 ?_
    first | exact trivial | exact rfl
end Go.Proofs.Ytenjkphlbdhaiaa
end
section
namespace Go.Proofs.Ytenjkphlbdhaiaa
open Go Go.Eng
theorem mf1E1 {p q : Prop} (k : q) (h : p := by first | (rw [← hfin] <;> first | exact rfl | exact Iff.rfl | exact ⟨rfl, rfl⟩ | exact decide_eq_true_iff | (constructor <;> first | exact rfl | (simp only [ei, eb, es, ec, c135, gmin, gmax, List.map_append, List.flatMap_append, List.nil_append, List.append_nil, List.append_assoc]; done) | omega | (simp only [List.nil_append, List.length_append, List.length_cons, List.length_nil]; omega) | (simp [ei, eb, es, ec, c135, gmin, gmax]; done)) | exact rfl | (simp only [ei, eb, es, ec, c135, gmin, gmax, List.map_append, List.flatMap_append, List.nil_append, List.append_nil, List.append_assoc]; done) | omega | (simp only [List.nil_append, List.length_append, List.length_cons, List.length_nil]; omega) | (simp [ei, eb, es, ec, c135, gmin, gmax]; done) | simp [ei, eb, es, ec, c135, gmin, gmax]) | first | exact rfl | exact Iff.rfl | exact ⟨rfl, rfl⟩ | exact decide_eq_true_iff | (constructor <;> first | exact rfl | (simp only [ei, eb, es, ec, c135, gmin, gmax, List.map_append, List.flatMap_append, List.nil_append, List.append_nil, List.append_assoc]; done) | omega | (simp only [List.nil_append, List.length_append, List.length_cons, List.length_nil]; omega) | (simp [ei, eb, es, ec, c135, gmin, gmax]; done)) | exact rfl | (simp only [ei, eb, es, ec, c135, gmin, gmax, List.map_append, List.flatMap_append, List.nil_append, List.append_nil, List.append_assoc]; done) | omega | (simp only [List.nil_append, List.length_append, List.length_cons, List.length_nil]; omega) | (simp [ei, eb, es, ec, c135, gmin, gmax]; done) | simp [ei, eb, es, ec, c135, gmin, gmax]) : Ob p ∧ q := ⟨⟨h⟩, k⟩
noncomputable def g103 (a0 : List ByteArray) : Option (List ByteArray) :=
 ck ((0 + a0.length) * 16 ≤ 140737488355328) <|
 some (([] : List ByteArray) ++ a0)
noncomputable def k103 : Eng.CS := { f := 103, calm := false, more := 1, ι := (List ByteArray) × List ByteArray, ok := fun i => g103 i.1 = some i.2, rds := fun _ => [], args := fun i => [.sl 1 i.1.length (es i.1)], res := fun i => .own 0, L' := fun i => [(0, .arr 9 1 i.2.length (es i.2))], rn := [(0, 0, 9, 1)] }
set_option maxRecDepth 8000 in
set_option maxHeartbeats 4000000 in
theorem k103_ok : CSOk Try.prog k103 := by
 refine R.cspec Try.func103 nm103 rfl ?_
 rintro ⟨a0, r⟩ hok q _ args hargs
 match args, hargs with
 | [_], hargs =>
 obtain ⟨⟨A0, cp0, rfl, hc0, _, hR0⟩, _⟩ := hargs
 refine ⟨envC [] false [], 6, envC_ok (css_nil), ?_⟩
 have H : Gives (g103 a0) (fun a => a = r) := ⟨r, hok, rfl⟩
 unfold g103 at H
 clear hok
 refine And.intro (fun hn => ?_) (fun hn => ?_)
 ·have he : a0 = [] := nil_rowS hn hR0
  subst he
  replace H := ck_go H
  have hfin := fin_st H
  repeat refine mf1E1 ?_
  first | exact trivial | exact rfl
 ·refine rs_st hR0 (es_len.trans (Nat.mul_one _).symm) ?_
  refine ob_app (by decide) (by first | exact es_one | ((repeat (refine List.forall_mem_cons.2 ⟨rfl, ?_⟩)); intro y hy; cases hy; done) | (intro y hy; simp [ei, eb, es, ec, c135] at hy; (first | (rcases hy with rfl | hy) | subst hy | skip); all_goals first | rfl | simp_all [Value.oneCell'])) H fun h1 H => ?_
  intro n2 zs4 hn3 hz5
  obtain rfl : n2 = (([] : List ByteArray) ++ a0).length := hn3.trans (by first | exact List.length_append.symm | (simp; done) | (simp; omega))
  obtain rfl : zs4 = es (([] : List ByteArray) ++ a0) := by first | exact hz5.trans (es_app (xs := ([] : List ByteArray)) (ys := a0)).symm | (rw [hz5, es_vw]; first | exact es_app.symm | exact (es_app (xs := ([] : List ByteArray))).symm) | (rw [hz5]; simp [ei, eb, es, ec, c135])
  have hfin := fin_st H
  repeat refine mf1E1 ?_
  first | exact trivial | exact rfl
theorem g103_eq {a v : List ByteArray} (h : g103 a = some v) : v = a := by unfold g103 ck at h; split at h; exact (Option.some.inj h).symm; cases h
def c105 (p : (((Option Addr × Nat) × List ByteArray) × Int)) : List Value := [.slice p.1.1.1 p.1.2.length p.1.1.2, .int .i64 p.2]
theorem c105_len : ∀ a, (c105 a).length = 2 := fun _ => rfl
theorem c105_one : ∀ a, ∀ y ∈ c105 a, y.oneCell' = true := by intro a y hy; simp only [c105, List.mem_cons, List.not_mem_nil, or_false] at hy; rcases hy with rfl | rfl <;> rfl
def e105 (p : (((Option Addr × Nat) × List ByteArray) × Int)) : (List ByteArray × Int) := (p.1.2, p.2)
def P105 (q : PH) (p : (((Option Addr × Nat) × List ByteArray) × Int)) : Prop := Reads q p.1.1.1 (es p.1.2) ∧ p.1.2.length ≤ p.1.1.2
def R105 (p : (((Option Addr × Nat) × List ByteArray) × Int)) : List (Option Addr × List Value) := [(p.1.1.1, es p.1.2)]
def cap105 (p : (((Option Addr × Nat) × List ByteArray) × Int)) : Prop := p.1.2.length ≤ p.1.1.2
theorem P105.mono {q q' : PH} (h : q.le q') {p : (((Option Addr × Nat) × List ByteArray) × Int)} (hp : P105 q p) : P105 q' p := ⟨Reads.mono h hp.1, hp.2⟩
theorem P105.of {q : PH} {l : List ((((Option Addr × Nat) × List ByteArray) × Int))} (h : Eng.RdsOk q (l.flatMap R105)) (hc : ∀ p ∈ l, cap105 p) : ∀ p ∈ l, P105 q p := fun p hp => ⟨rds_mem (x := (p.1.1.1, es p.1.2)) h (List.mem_flatMap.2 ⟨p, hp, by simp [R105]⟩), (hc p hp)⟩
theorem P105.rds {q : PH} {l : List ((((Option Addr × Nat) × List ByteArray) × Int))} (h : ∀ p ∈ l, P105 q p) : RdsOk q (l.flatMap R105) := rds_of fun x hx => by obtain ⟨p, hp, hx⟩ := List.mem_flatMap.1 hx; have h := h p hp; simp only [R105, List.mem_cons, List.not_mem_nil, or_false] at hx; rcases hx with rfl; exact h.1
theorem P105.cap {q : PH} {l : List ((((Option Addr × Nat) × List ByteArray) × Int))} (h : ∀ p ∈ l, P105 q p) : ∀ p ∈ l, cap105 p := fun p hp => (h p hp).2
theorem mf2E1 {p q : Prop} (k : q) (h : p := by first | (rw [← hfin] <;> first | exact rfl | exact Iff.rfl | exact ⟨rfl, rfl⟩ | exact decide_eq_true_iff | (constructor <;> first | exact rfl | (simp only [ei, eb, es, ec, c105, c135, gmin, gmax, List.map_append, List.flatMap_append, List.nil_append, List.append_nil, List.append_assoc]; done) | omega | (simp only [List.nil_append, List.length_append, List.length_cons, List.length_nil]; omega) | (simp [ei, eb, es, ec, c105, c135, gmin, gmax]; done)) | exact rfl | (simp only [ei, eb, es, ec, c105, c135, gmin, gmax, List.map_append, List.flatMap_append, List.nil_append, List.append_nil, List.append_assoc]; done) | omega | (simp only [List.nil_append, List.length_append, List.length_cons, List.length_nil]; omega) | (simp [ei, eb, es, ec, c105, c135, gmin, gmax]; done) | simp [ei, eb, es, ec, c105, c135, gmin, gmax]) | first | exact rfl | exact Iff.rfl | exact ⟨rfl, rfl⟩ | exact decide_eq_true_iff | (constructor <;> first | exact rfl | (simp only [ei, eb, es, ec, c105, c135, gmin, gmax, List.map_append, List.flatMap_append, List.nil_append, List.append_nil, List.append_assoc]; done) | omega | (simp only [List.nil_append, List.length_append, List.length_cons, List.length_nil]; omega) | (simp [ei, eb, es, ec, c105, c135, gmin, gmax]; done)) | exact rfl | (simp only [ei, eb, es, ec, c105, c135, gmin, gmax, List.map_append, List.flatMap_append, List.nil_append, List.append_nil, List.append_assoc]; done) | omega | (simp only [List.nil_append, List.length_append, List.length_cons, List.length_nil]; omega) | (simp [ei, eb, es, ec, c105, c135, gmin, gmax]; done) | simp [ei, eb, es, ec, c105, c135, gmin, gmax]) : Ob p ∧ q := ⟨⟨h⟩, k⟩
noncomputable def g82 (a0 : List (((Option Addr × Nat) × List ByteArray) × Int)) : Option (List (((Option Addr × Nat) × List ByteArray) × Int)) :=
 ck ((0 + a0.length) * 32 ≤ 140737488355328) <|
 some (([] : List (((Option Addr × Nat) × List ByteArray) × Int)) ++ a0)
noncomputable def k82 : Eng.CS := { f := 82, calm := false, more := 1, ι := (List (((Option Addr × Nat) × List ByteArray) × Int)) × List (((Option Addr × Nat) × List ByteArray) × Int), ok := fun i => g82 i.1 = some i.2, rds := fun _ => [], args := fun i => [.sl 2 i.1.length (ec c105 i.1)], res := fun i => .own 0, L' := fun i => [(0, .arr 105 2 i.2.length (ec c105 i.2))], rn := [(0, 0, 105, 2)] }
set_option maxRecDepth 8000 in
set_option maxHeartbeats 4000000 in
theorem k82_ok : CSOk Try.prog k82 := by
 refine R.cspec Try.func82 nm82 rfl ?_
 rintro ⟨a0, r⟩ hok q _ args hargs
 match args, hargs with
 | [_], hargs =>
 obtain ⟨⟨A0, cp0, rfl, hc0, _, hR0⟩, _⟩ := hargs
 refine ⟨envC [] false [], 6, envC_ok (css_nil), ?_⟩
 have H : Gives (g82 a0) (fun a => a = r) := ⟨r, hok, rfl⟩
 unfold g82 at H
 clear hok
 refine And.intro (fun hn => ?_) (fun hn => ?_)
 ·have he : a0 = [] := nil_row hn hR0 c105_len
  subst he
  replace H := ck_go H
  have hfin := fin_st H
  repeat refine mf2E1 ?_
  first | exact trivial | exact rfl
 ·refine rs_st hR0 (by rw [ec_len c105_len]) ?_
  refine ob_app (by decide) (by first | exact (ec_one c105_one) | ((repeat (refine List.forall_mem_cons.2 ⟨rfl, ?_⟩)); intro y hy; cases hy; done) | (intro y hy; simp [ei, eb, es, ec, c105, c135] at hy; (first | (rcases hy with rfl | hy) | subst hy | skip); all_goals first | rfl | simp_all [Value.oneCell'])) H fun h6 H => ?_
  intro n7 zs9 hn8 hz10
  obtain rfl : n7 = (([] : List (((Option Addr × Nat) × List ByteArray) × Int)) ++ a0).length := hn8.trans (by first | exact List.length_append.symm | (simp; done) | (simp; omega))
  obtain rfl : zs9 = ec c105 (([] : List (((Option Addr × Nat) × List ByteArray) × Int)) ++ a0) := by first | exact hz10.trans (ec_app (xs := ([] : List (((Option Addr × Nat) × List ByteArray) × Int))) (ys := a0)).symm | (rw [hz10, (ec_vw c105_len)]; first | exact ec_app.symm | exact (ec_app (xs := ([] : List (((Option Addr × Nat) × List ByteArray) × Int)))).symm) | (rw [hz10]; simp [ei, eb, es, ec, c105, c135])
  have hfin := fin_st H
  repeat refine mf2E1 ?_
  first | exact trivial | exact rfl
theorem g82_of {β : Type} {x v : List β} {X : List (((Option Addr × Nat) × List ByteArray) × Int)} (h : cl 32 x = some v) (hl : X.length = x.length) : v = x ∧ g82 X = some X := by unfold cl ck at h; split at h; (rename_i hc; rw [← hl] at hc; refine ⟨(Option.some.inj h).symm, ?_⟩; unfold g82 ck; rw [if_pos (by rw [Nat.zero_add]; exact hc)]; rfl); cases h
noncomputable def k82c : Eng.CS := { f := 82, calm := false, more := 1, ι := (List (((Option Addr × Nat) × List ByteArray) × Int)) × Nat, ok := fun i => i.2 = i.1.length ∧ g82 i.1 = some i.1, rds := fun _ => [], args := fun i => [.sl 2 i.1.length (ec c105 i.1)], res := fun i => .own 0, L' := fun i => [(0, .arr 105 2 i.2 (ec c105 i.1))], rn := [(0, 0, 105, 2)] }
theorem k82c_ok : CSOk Try.prog k82c := ⟨k82_ok.1, fun w q S i vs hok hr hm hc => by obtain ⟨X, n⟩ := i; obtain ⟨hn, hg⟩ := hok; have hn : n = X.length := hn; subst hn; exact k82_ok.2 w q S (X, X) vs hg hr hm hc⟩
def c25 (p : ((Option Addr × Nat) × List ByteArray)) : List Value := [.slice p.1.1 p.2.length p.1.2]
theorem c25_len : ∀ a, (c25 a).length = 1 := fun _ => rfl
theorem c25_one : ∀ a, ∀ y ∈ c25 a, y.oneCell' = true := by intro a y hy; simp only [c25, List.mem_cons, List.not_mem_nil, or_false] at hy; rcases hy with rfl <;> rfl
def e25 (p : ((Option Addr × Nat) × List ByteArray)) : List ByteArray := (p.2)
def P25 (q : PH) (p : ((Option Addr × Nat) × List ByteArray)) : Prop := Reads q p.1.1 (es p.2) ∧ p.2.length ≤ p.1.2
def R25 (p : ((Option Addr × Nat) × List ByteArray)) : List (Option Addr × List Value) := [(p.1.1, es p.2)]
def cap25 (p : ((Option Addr × Nat) × List ByteArray)) : Prop := p.2.length ≤ p.1.2
theorem P25.mono {q q' : PH} (h : q.le q') {p : ((Option Addr × Nat) × List ByteArray)} (hp : P25 q p) : P25 q' p := ⟨Reads.mono h hp.1, hp.2⟩
theorem P25.of {q : PH} {l : List (((Option Addr × Nat) × List ByteArray))} (h : Eng.RdsOk q (l.flatMap R25)) (hc : ∀ p ∈ l, cap25 p) : ∀ p ∈ l, P25 q p := fun p hp => ⟨rds_mem (x := (p.1.1, es p.2)) h (List.mem_flatMap.2 ⟨p, hp, by simp [R25]⟩), (hc p hp)⟩
theorem P25.rds {q : PH} {l : List (((Option Addr × Nat) × List ByteArray))} (h : ∀ p ∈ l, P25 q p) : RdsOk q (l.flatMap R25) := rds_of fun x hx => by obtain ⟨p, hp, hx⟩ := List.mem_flatMap.1 hx; have h := h p hp; simp only [R25, List.mem_cons, List.not_mem_nil, or_false] at hx; rcases hx with rfl; exact h.1
theorem P25.cap {q : PH} {l : List (((Option Addr × Nat) × List ByteArray))} (h : ∀ p ∈ l, P25 q p) : ∀ p ∈ l, cap25 p := fun p hp => (h p hp).2
end Go.Proofs.Ytenjkphlbdhaiaa
end
