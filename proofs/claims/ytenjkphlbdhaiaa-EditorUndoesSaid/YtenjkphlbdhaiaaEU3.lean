/-
  Texts that the law leans on. Nothing here is trusted.
-/
import Derived.Test.YtenjkphlbdhaiaaEU2
import Derived.Test.YtenjkphlbdhaiaaJoinB
set_option linter.unusedVariables false
set_option linter.unusedSimpArgs false
namespace Go.Proofs.Ytenjkphlbdhaiaa
open Go Go.Eng
theorem mo1E2 {p q : Prop} (k : q) (h : p := by first | exact rfl | exact Iff.rfl | exact ⟨rfl, rfl⟩ | exact decide_eq_true_iff | (constructor <;> first | exact rfl | (simp only [ei, eb, es, ec, c135, gmin, gmax, List.map_append, List.flatMap_append, List.nil_append, List.append_nil, List.append_assoc]; done) | omega | (simp only [List.nil_append, List.length_append, List.length_cons, List.length_nil]; omega) | (simp [ei, eb, es, ec, c135, gmin, gmax]; done)) | exact rfl | (simp only [ei, eb, es, ec, c135, gmin, gmax, List.map_append, List.flatMap_append, List.nil_append, List.append_nil, List.append_assoc]; done) | omega | (simp only [List.nil_append, List.length_append, List.length_cons, List.length_nil]; omega) | (simp [ei, eb, es, ec, c135, gmin, gmax]; done) | simp [ei, eb, es, ec, c135, gmin, gmax]) : Ob p ∧ q := ⟨⟨h⟩, k⟩
theorem mf1E2 {p q : Prop} (k : q) (h : p := by first | (rw [← hfin] <;> first | exact rfl | exact Iff.rfl | exact ⟨rfl, rfl⟩ | exact decide_eq_true_iff | (constructor <;> first | exact rfl | (simp only [ei, eb, es, ec, c135, gmin, gmax, List.map_append, List.flatMap_append, List.nil_append, List.append_nil, List.append_assoc]; done) | omega | (simp only [List.nil_append, List.length_append, List.length_cons, List.length_nil]; omega) | (simp [ei, eb, es, ec, c135, gmin, gmax]; done)) | exact rfl | (simp only [ei, eb, es, ec, c135, gmin, gmax, List.map_append, List.flatMap_append, List.nil_append, List.append_nil, List.append_assoc]; done) | omega | (simp only [List.nil_append, List.length_append, List.length_cons, List.length_nil]; omega) | (simp [ei, eb, es, ec, c135, gmin, gmax]; done) | simp [ei, eb, es, ec, c135, gmin, gmax]) | first | exact rfl | exact Iff.rfl | exact ⟨rfl, rfl⟩ | exact decide_eq_true_iff | (constructor <;> first | exact rfl | (simp only [ei, eb, es, ec, c135, gmin, gmax, List.map_append, List.flatMap_append, List.nil_append, List.append_nil, List.append_assoc]; done) | omega | (simp only [List.nil_append, List.length_append, List.length_cons, List.length_nil]; omega) | (simp [ei, eb, es, ec, c135, gmin, gmax]; done)) | exact rfl | (simp only [ei, eb, es, ec, c135, gmin, gmax, List.map_append, List.flatMap_append, List.nil_append, List.append_nil, List.append_assoc]; done) | omega | (simp only [List.nil_append, List.length_append, List.length_cons, List.length_nil]; omega) | (simp [ei, eb, es, ec, c135, gmin, gmax]; done) | simp [ei, eb, es, ec, c135, gmin, gmax]) : Ob p ∧ q := ⟨⟨h⟩, k⟩
noncomputable def g101 (a0 : ByteArray) : Option (ByteArray) :=
 (g67 a0).bind fun v1 =>
 (g81 v1 (lit [])).bind fun v3 =>
 some v3
noncomputable def k101 : Eng.CS := { f := 101, calm := true, more := 0, ι := ByteArray × ByteArray, ok := fun i => g101 i.1 = some i.2, rds := fun _ => [], args := fun i => [.w (.v (.string (i.1)))], res := fun i => .v (.string (i.2)) }
set_option maxRecDepth 8000 in
set_option maxHeartbeats 4000000 in
theorem k101_ok : CalmOk Try.prog k101 := by
 refine R.calmspec Try.func101 nm101 rfl ?_
 rintro ⟨a0, r⟩ hok q _ args hargs
 match args, hargs with
 | [_], hargs =>
 obtain ⟨rfl, _⟩ := hargs
 refine ⟨envC [k67, k81] false [], 6, envC_ok (css_cons ⟨fun h => (by cases h), fun _ => k67_ok⟩ (css_cons ⟨fun _ => k81_ok, fun h => (by cases h)⟩ (css_nil))), rfl, (by intro x hx; simp only [List.mem_cons, List.not_mem_nil, or_false] at hx; rcases hx with rfl <;> rfl), ?_⟩
 have H : Gives (g101 a0) (fun a => a = r) := ⟨r, hok, rfl⟩
 unfold g101 at H
 clear hok
 obtain ⟨v1, hv2, H⟩ := call_st H
 refine ⟨(a0, v1), ⟨hv2⟩, ⟨trivial⟩, ?_⟩
 refine And.intro ⟨rfl⟩ ?_
 obtain ⟨v3, hv4, H⟩ := call_st H
 refine ⟨(v1, (lit []), v3), ⟨hv4⟩, ⟨trivial⟩, ?_⟩
 refine And.intro ⟨by first | rfl | (simp; done), by first | rfl | (simp [ei, eb, es, ec, c135]; done) | (simp only [ei, eb, es, ec, c135, List.map_append, List.nil_append, List.append_assoc]; rfl)⟩ ?_
 refine And.intro ⟨rfl⟩ ?_
 have hfin := fin_st H
 repeat refine mf1E2 ?_
 first | exact trivial | exact rfl
noncomputable def g97 (a0 : ByteArray) (a1 : Int) : Option (ByteArray × Bool) :=
 (g118 a1).bind fun v16 =>
 if ¬ (v16 = true) then
  some (a0, false)
 else
  (
   (g56 a0).bind fun v19 =>
   if ¬ (v19 = true) then
    some (a0, false)
   else
    (
     (g119 a1).bind fun v22 =>
     ck (isBytes v22) <|
     ck (a0.size + (strOf v22).size ≤ 9223372036854775807) <|
     if 64 < ((a0 ++ (strOf v22)).size : Int) then
      some (a0, false)
     else
      some (a0 ++ (strOf v22), true)
    )
  )
noncomputable def k97 : Eng.CS := { f := 97, calm := true, more := 0, ι := ByteArray × Int × (ByteArray × Bool), ok := fun i => g97 i.1 i.2.1 = some i.2.2, rds := fun _ => [], args := fun i => [.w (.v (.string (i.1))), .w (.v (.int .i32 (i.2.1)))], res := fun i => .tup [.v (.string (i.2.2.1)), bS i.2.2.2] }
set_option maxRecDepth 8000 in
set_option maxHeartbeats 4000000 in
theorem k97_ok : CalmOk Try.prog k97 := by
 refine R.calmspec Try.func97 nm97 rfl ?_
 rintro ⟨a0, a1, r⟩ hok q _ args hargs
 match args, hargs with
 | [_, _], hargs =>
 obtain ⟨rfl, rfl, _⟩ := hargs
 refine ⟨envC [k56, k118, k119] false [], 6, envC_ok (css_cons ⟨fun _ => k56_ok, fun h => (by cases h)⟩ (css_cons ⟨fun _ => k118_ok, fun h => (by cases h)⟩ (css_cons ⟨fun h => (by cases h), fun _ => k119_ok⟩ (css_nil)))), rfl, (by intro x hx; simp only [List.mem_cons, List.not_mem_nil, or_false] at hx; rcases hx with rfl | rfl <;> rfl), ?_⟩
 have H : Gives (g97 a0 a1) (fun a => a = r) := ⟨r, hok, rfl⟩
 unfold g97 at H
 clear hok
 obtain ⟨v16, hv17, H⟩ := call_st H
 refine ⟨(a1, v16), ⟨hv17⟩, ⟨trivial⟩, ?_⟩
 refine And.intro ⟨rfl⟩ ?_
 refine if_st H (fun h18 H => ?_) (fun h18 H => ?_)
 ·have hfin := fin_st H
  repeat refine mf1E2 ?_
  first | exact trivial | exact rfl
 ·obtain ⟨v19, hv20, H⟩ := call_st H
  refine ⟨(a0, v19), ⟨hv20⟩, ⟨trivial⟩, ?_⟩
  refine And.intro ⟨rfl⟩ ?_
  refine if_st H (fun h21 H => ?_) (fun h21 H => ?_)
  ·have hfin := fin_st H
   repeat refine mf1E2 ?_
   first | exact trivial | exact rfl
  ·obtain ⟨v22, hv23, H⟩ := call_st H
   refine ⟨(a1, v22), ⟨hv23⟩, ⟨trivial⟩, ?_⟩
   refine And.intro ⟨rfl⟩ ?_
   refine ob_str (l := v22) H fun h24 H => ?_
   refine ob_ck H fun h25 H => ?_
   refine if_st H (fun h27 H => ?_) (fun h27 H => ?_)
   ·have hfin := fin_st H
    repeat refine mf1E2 ?_
    first | exact trivial | exact rfl
   ·have hfin := fin_st H
    repeat refine mf1E2 ?_
    first | exact trivial | exact rfl
noncomputable def g79 (a0 : List ByteArray) (a1 : List ByteArray) : Option (Bool) :=
 jn (α := _) (β := Bool) (fun k55 =>
   (loopO (σ := Bool × Int) (ρ := Bool) (fun s58 =>
     if s58.2 < ((a0.length : Nat) : Int) then
      (
       ck (0 ≤ s58.2 ∧ s58.2 < ((a0.length : Nat) : Int)) <|
       if ¬ (s58.1 = true) then
        some (.out s58.1)
       else
        (
         ck (0 ≤ s58.2 ∧ s58.2 < ((a1.length : Nat) : Int)) <|
         ck (inR .i64 (s58.2 + 1)) <|
         some (.go ((decide ((a0.getD s58.2.toNat default).data.toList = (a1.getD s58.2.toNat default).data.toList)), s58.2 + 1))
        )
      )
     else
      some (.out s58.1)
    ) ((decide (((a0.length : Nat) : Int) = ((a1.length : Nat) : Int))), 0)).bind fun o70 =>
    k55 o70
 ) (fun v54 =>
  some v54
 )
noncomputable def k79 : Eng.CS := { f := 79, calm := true, more := 0, ι := (List ByteArray) × (List ByteArray) × Bool, ok := fun i => g79 i.1 i.2.1 = some i.2.2, rds := fun _ => [], args := fun i => [.sl 1 i.1.length (es i.1), .sl 1 i.2.1.length (es i.2.1)], res := fun i => bS i.2.2 }
set_option maxRecDepth 8000 in
set_option maxHeartbeats 4000000 in
theorem k79_ok : CalmOk Try.prog k79 := by
 refine R.calmspec Try.func79 nm79 rfl ?_
 rintro ⟨a0, a1, r⟩ hok q _ args hargs
 match args, hargs with
 | [_, _], hargs =>
 obtain ⟨⟨A0, cp0, rfl, hc0, _, hR0⟩, ⟨A1, cp1, rfl, hc1, _, hR1⟩, _⟩ := hargs
 refine ⟨envC [] false [(79, 8)], 6, envC_ok (css_nil), rfl, (by intro x hx; simp only [List.mem_cons, List.not_mem_nil, or_false] at hx; rcases hx with rfl | rfl <;> rfl), ?_⟩
 have H : Gives (g79 a0 a1) (fun a => a = r) := ⟨r, hok, rfl⟩
 unfold g79 at H
 clear hok
 refine R.cut_fam H 20 [] [] (fun v54 => [(5, bS v54)]) (fun v54 => []) [] 0 (fun H => ?_)
 refine And.intro ?_ ?_
 ·refine R.loop_fam (bind_st H) [1, 13, 14] [] (fun _ s58 => [(5, bS s58.1), (15, .v (.int .i64 (s58.2)))]) (fun _ s58 => []) 0 (fun n76 H => ?_)
  refine ⟨(n76, _), ⟨H⟩, ⟨trivial⟩, ?_⟩
  repeat refine mo1E2 ?_
  rintro ⟨m0, s58⟩ H _
  obtain ⟨m59, hm0, H⟩ := IG_succ H
  dsimp only at hm0
  subst hm0
  try dsimp only at H
  refine if_st H (fun h71 H => ?_) (fun h71 H => ?_)
  ·refine ob_ix hR0 (fun h => es0 h) H fun h72 H => ?_
   refine ld_str (e := a0.getD s58.2.toNat default) (rd_get hR0 (es_get (l := a0) (tn h72))) ?_
   refine if_st H (fun h73 H => ?_) (fun h73 H => ?_)
   ·replace H := some_st H
    dsimp only [stp, sm] at H
    refine ⟨s58.1, ⟨H⟩, ⟨rfl⟩, ?_⟩
    repeat refine mo1E2 ?_
    first | exact trivial | exact rfl
   ·refine ob_ix hR1 (fun h => es0 h) H fun h74 H => ?_
    refine ld_str (e := a1.getD s58.2.toNat default) (rd_get hR1 (es_get (l := a1) (tn h74))) ?_
    refine ob_ck H fun h75 H => ?_
    replace H := some_st H
    refine ⟨(m59, ((decide ((a0.getD s58.2.toNat default).data.toList = (a1.getD s58.2.toNat default).data.toList)), s58.2 + 1)), ⟨H, Nat.lt_succ_self _⟩, ⟨trivial⟩, ⟨rfl⟩, ?_⟩
    repeat refine mo1E2 ?_
    first | exact trivial | exact rfl
  ·replace H := some_st H
   dsimp only [stp, sm] at H
   refine ⟨s58.1, ⟨H⟩, ⟨rfl⟩, ?_⟩
   repeat refine mo1E2 ?_
   first | exact trivial | exact rfl
 ·intro v54 H
  have hfin := fin_st H
  repeat refine mf1E2 ?_
  first | exact trivial | exact rfl
noncomputable def g33 (a0 : ByteArray) : Option (ByteArray) :=
 ck (0 ≤ (0 : Int) ∧ (0 : Int) ≤ gmin (a0.size : Int) 200 ∧ gmin (a0.size : Int) 200 ≤ (a0.size : Int)) <|
 some (a0.extract (0 : Int).toNat (gmin (a0.size : Int) 200).toNat)
noncomputable def k33 : Eng.CS := { f := 33, calm := true, more := 0, ι := ByteArray × ByteArray, ok := fun i => g33 i.1 = some i.2, rds := fun _ => [], args := fun i => [.w (.v (.string (i.1)))], res := fun i => .v (.string (i.2)) }
set_option maxRecDepth 8000 in
set_option maxHeartbeats 4000000 in
theorem k33_ok : CalmOk Try.prog k33 := by
 refine R.calmspec Try.func33 nm33 rfl ?_
 rintro ⟨a0, r⟩ hok q _ args hargs
 match args, hargs with
 | [_], hargs =>
 obtain ⟨rfl, _⟩ := hargs
 refine ⟨envC [] false [], 6, envC_ok (css_nil), rfl, (by intro x hx; simp only [List.mem_cons, List.not_mem_nil, or_false] at hx; rcases hx with rfl <;> rfl), ?_⟩
 have H : Gives (g33 a0) (fun a => a = r) := ⟨r, hok, rfl⟩
 unfold g33 at H
 clear hok
 refine ob_ck H fun h77 H => ?_
 have hfin := fin_st H
 repeat refine mf1E2 ?_
 first | exact trivial | exact rfl
end Go.Proofs.Ytenjkphlbdhaiaa
