/-
  Texts that the law leans on. Nothing here is trusted.
-/
import Derived.Test.YtenjkphlbdhaiaaGreatEngTZ
import Derived.Test.YtenjkphlbdhaiaaGreatEngLc
set_option linter.unusedVariables false
set_option linter.unusedSimpArgs false
section
namespace Go.Proofs.YtenjkphlbdhaiaaGreat
open Go Go.Eng
theorem mo1ZB1 {p q : Prop} (k : q) (h : p := by first | exact rfl | exact Iff.rfl | exact ⟨rfl, rfl⟩ | exact decide_eq_true_iff | (constructor <;> first | exact rfl | (simp only [ei, eb, es, ec, List.map_append, List.flatMap_append, List.nil_append, List.append_nil, List.append_assoc]; done) | omega | (simp only [List.nil_append, List.length_append, List.length_cons, List.length_nil]; omega) | (simp [ei, eb, es, ec]; done)) | exact rfl | (simp only [ei, eb, es, ec, List.map_append, List.flatMap_append, List.nil_append, List.append_nil, List.append_assoc]; done) | omega | (simp only [List.nil_append, List.length_append, List.length_cons, List.length_nil]; omega) | (simp [ei, eb, es, ec]; done) | simp [ei, eb, es, ec]) : Ob p ∧ q := ⟨⟨h⟩, k⟩
theorem mf1ZB1 {p q : Prop} (k : q) (h : p := by first | (rw [← hfin] <;> first | exact rfl | exact Iff.rfl | exact ⟨rfl, rfl⟩ | exact decide_eq_true_iff | (constructor <;> first | exact rfl | (simp only [ei, eb, es, ec, List.map_append, List.flatMap_append, List.nil_append, List.append_nil, List.append_assoc]; done) | omega | (simp only [List.nil_append, List.length_append, List.length_cons, List.length_nil]; omega) | (simp [ei, eb, es, ec]; done)) | exact rfl | (simp only [ei, eb, es, ec, List.map_append, List.flatMap_append, List.nil_append, List.append_nil, List.append_assoc]; done) | omega | (simp only [List.nil_append, List.length_append, List.length_cons, List.length_nil]; omega) | (simp [ei, eb, es, ec]; done) | simp [ei, eb, es, ec]) | first | exact rfl | exact Iff.rfl | exact ⟨rfl, rfl⟩ | exact decide_eq_true_iff | (constructor <;> first | exact rfl | (simp only [ei, eb, es, ec, List.map_append, List.flatMap_append, List.nil_append, List.append_nil, List.append_assoc]; done) | omega | (simp only [List.nil_append, List.length_append, List.length_cons, List.length_nil]; omega) | (simp [ei, eb, es, ec]; done)) | exact rfl | (simp only [ei, eb, es, ec, List.map_append, List.flatMap_append, List.nil_append, List.append_nil, List.append_assoc]; done) | omega | (simp only [List.nil_append, List.length_append, List.length_cons, List.length_nil]; omega) | (simp [ei, eb, es, ec]; done) | simp [ei, eb, es, ec]) : Ob p ∧ q := ⟨⟨h⟩, k⟩
noncomputable def g105 (a0 : Int) : Option ((Int × Int × Int × Int)) :=
 if a0 < 128 then
  (
   ck (inR .i32 a0) <|
   some (1, 0, 0, a0)
  )
 else
  (
   if a0 < 194 then
    some (0, 0, 0, 0)
   else
    (
     if a0 < 224 then
      (
       ck (inR .i32 (bits .and .u8 a0 31)) <|
       some (2, 128, 191, bits .and .u8 a0 31)
      )
     else
      (
       if a0 = 224 then
        some (3, 160, 191, 0)
       else
        (
         if a0 = 237 then
          some (3, 128, 159, 13)
         else
          (
           if a0 < 240 then
            (
             ck (inR .i32 (bits .and .u8 a0 15)) <|
             some (3, 128, 191, bits .and .u8 a0 15)
            )
           else
            (
             if a0 = 240 then
              some (4, 144, 191, 0)
             else
              (
               if a0 < 244 then
                (
                 ck (inR .i32 (bits .and .u8 a0 7)) <|
                 some (4, 128, 191, bits .and .u8 a0 7)
                )
               else
                (
                 if a0 = 244 then
                  some (4, 128, 143, 4)
                 else
                  some (0, 0, 0, 0)
                )
              )
            )
          )
        )
      )
    )
  )
noncomputable def k105 : Eng.CS := { f := 105, calm := true, more := 0, ι := Int × (Int × Int × Int × Int), ok := fun i => g105 i.1 = some i.2, rds := fun _ => [], args := fun i => [.w (.v (.int .u8 (i.1)))], res := fun i => .agg [.v (.int .i64 (i.2.1)), .v (.int .u8 (i.2.2.1)), .v (.int .u8 (i.2.2.2.1)), .v (.int .i32 (i.2.2.2.2))] }
set_option maxRecDepth 8000 in
set_option maxHeartbeats 4000000 in
theorem k105_ok : CalmOk Tryz.prog k105 := by
 refine R.calmspec Tryz.func105 nm105 rfl ?_
 rintro ⟨a0, r⟩ hok q _ args hargs
 match args, hargs with
 | [_], hargs =>
 obtain ⟨rfl, _⟩ := hargs
 refine ⟨envC [] false [], 6, envC_ok (css_nil), rfl, (by intro x hx; simp only [List.mem_cons, List.not_mem_nil, or_false] at hx; rcases hx with rfl <;> rfl), ?_⟩
 have H : Gives (g105 a0) (fun a => a = r) := ⟨r, hok, rfl⟩
 unfold g105 at H
 clear hok
 refine if_st H (fun h14 H => ?_) (fun h14 H => ?_)
 ·refine ob_ck H fun h15 H => ?_
  have hfin := fin_st H
  repeat refine mf1ZB1 ?_
  first | exact trivial | exact rfl
 ·refine if_st H (fun h16 H => ?_) (fun h16 H => ?_)
  ·have hfin := fin_st H
   repeat refine mf1ZB1 ?_
   first | exact trivial | exact rfl
  ·refine if_st H (fun h17 H => ?_) (fun h17 H => ?_)
   ·refine ob_ck H fun h18 H => ?_
    have hfin := fin_st H
    repeat refine mf1ZB1 ?_
    first | exact trivial | exact rfl
   ·refine if_st H (fun h19 H => ?_) (fun h19 H => ?_)
    ·have hfin := fin_st H
     repeat refine mf1ZB1 ?_
     first | exact trivial | exact rfl
    ·refine if_st H (fun h20 H => ?_) (fun h20 H => ?_)
     ·have hfin := fin_st H
      repeat refine mf1ZB1 ?_
      first | exact trivial | exact rfl
     ·refine if_st H (fun h21 H => ?_) (fun h21 H => ?_)
      ·refine ob_ck H fun h22 H => ?_
       have hfin := fin_st H
       repeat refine mf1ZB1 ?_
       first | exact trivial | exact rfl
      ·refine if_st H (fun h23 H => ?_) (fun h23 H => ?_)
       ·have hfin := fin_st H
        repeat refine mf1ZB1 ?_
        first | exact trivial | exact rfl
       ·refine if_st H (fun h24 H => ?_) (fun h24 H => ?_)
        ·refine ob_ck H fun h25 H => ?_
         have hfin := fin_st H
         repeat refine mf1ZB1 ?_
         first | exact trivial | exact rfl
        ·refine if_st H (fun h26 H => ?_) (fun h26 H => ?_)
         ·have hfin := fin_st H
          repeat refine mf1ZB1 ?_
          first | exact trivial | exact rfl
         ·have hfin := fin_st H
          repeat refine mf1ZB1 ?_
          first | exact trivial | exact rfl
noncomputable def g96 (a0 : Int) : Option (Bool) :=
 if 0 ≤ a0 then
  (
   if a0 ≤ 1114111 then
    (
     if a0 < 55296 then
      some true
     else
      some (decide (57343 < a0))
    )
   else
    some false
  )
 else
  some false
noncomputable def k96 : Eng.CS := { f := 96, calm := true, more := 0, ι := Int × Bool, ok := fun i => g96 i.1 = some i.2, rds := fun _ => [], args := fun i => [.w (.v (.int .i32 (i.1)))], res := fun i => bS i.2 }
set_option maxRecDepth 8000 in
set_option maxHeartbeats 4000000 in
theorem k96_ok : CalmOk Tryz.prog k96 := by
 refine R.calmspec Tryz.func96 nm96 rfl ?_
 rintro ⟨a0, r⟩ hok q _ args hargs
 match args, hargs with
 | [_], hargs =>
 obtain ⟨rfl, _⟩ := hargs
 refine ⟨envC [] false [], 6, envC_ok (css_nil), rfl, (by intro x hx; simp only [List.mem_cons, List.not_mem_nil, or_false] at hx; rcases hx with rfl <;> rfl), ?_⟩
 have H : Gives (g96 a0) (fun a => a = r) := ⟨r, hok, rfl⟩
 unfold g96 at H
 clear hok
 refine if_st H (fun h27 H => ?_) (fun h27 H => ?_)
 ·refine if_st H (fun h28 H => ?_) (fun h28 H => ?_)
  ·refine if_st H (fun h29 H => ?_) (fun h29 H => ?_)
   ·have hfin := fin_st H
    repeat refine mf1ZB1 ?_
    first | exact trivial | exact rfl
   ·have hfin := fin_st H
    repeat refine mf1ZB1 ?_
    first | exact trivial | exact rfl
  ·have hfin := fin_st H
   repeat refine mf1ZB1 ?_
   first | exact trivial | exact rfl
 ·have hfin := fin_st H
  repeat refine mf1ZB1 ?_
  first | exact trivial | exact rfl
noncomputable def g97 (a0 : Int) (a1 : Int) : Option (Int) :=
 ck (0 ≤ a1 ∧ a1 ≤ ((IntKind.bits .i32 : Nat) : Int)) <|
 some (bits .or .u8 128 (bits .and .u8 (IntKind.wrap .u8 (a0 / 2 ^ a1.toNat)) 63))
noncomputable def k97 : Eng.CS := { f := 97, calm := true, more := 0, ι := Int × Int × Int, ok := fun i => g97 i.1 i.2.1 = some i.2.2, rds := fun _ => [], args := fun i => [.w (.v (.int .i32 (i.1))), .w (.v (.int .u64 (i.2.1)))], res := fun i => .v (.int .u8 (i.2.2)) }
set_option maxRecDepth 8000 in
set_option maxHeartbeats 4000000 in
theorem k97_ok : CalmOk Tryz.prog k97 := by
 refine R.calmspec Tryz.func97 nm97 rfl ?_
 rintro ⟨a0, a1, r⟩ hok q _ args hargs
 match args, hargs with
 | [_, _], hargs =>
 obtain ⟨rfl, rfl, _⟩ := hargs
 refine ⟨envC [] false [], 6, envC_ok (css_nil), rfl, (by intro x hx; simp only [List.mem_cons, List.not_mem_nil, or_false] at hx; rcases hx with rfl | rfl <;> rfl), ?_⟩
 have H : Gives (g97 a0 a1) (fun a => a = r) := ⟨r, hok, rfl⟩
 unfold g97 at H
 clear hok
 refine ob_ck H fun h30 H => ?_
 have hfin := fin_st H
 repeat refine mf1ZB1 ?_
 first | exact trivial | exact rfl
noncomputable def g102 (a0 : List Int) : Option (Int × Int × Bool) :=
 if ((a0.length : Nat) : Int) = 0 then
  some (0, 0, true)
 else
  (
   ck (0 ≤ (0 : Int) ∧ 0 < ((a0.length : Nat) : Int)) <|
   (g105 (a0.getD (0 : Int).toNat 0)).bind fun v34 =>
   if v34.1 = 0 then
    some (65533, 1, false)
   else
    (
     jn (α := _) (β := Int) (fun k107 =>
       (loopO (σ := Int × Int) (ρ := (Int × Int × Bool) ⊕ (Int)) (fun s110 =>
         if s110.2 < v34.1 then
          (
           if ((a0.length : Nat) : Int) ≤ s110.2 then
            some (.out (.inl ((0, 0, true))))
           else
            (
             jn (α := _) (β := Int × Int) (fun k143 =>
               if s110.2 = 1 then
                k143 (v34.2.1, v34.2.2.1)
               else
                k143 (128, 191)
             ) (fun v142 =>
              ck (0 ≤ s110.2 ∧ s110.2 < ((a0.length : Nat) : Int)) <|
              if (a0.getD s110.2.toNat 0) < v142.1 then
               some (.out (.inl ((65533, 1, false))))
              else
               (
                ck (0 ≤ s110.2 ∧ s110.2 < ((a0.length : Nat) : Int)) <|
                if v142.2 < (a0.getD s110.2.toNat 0) then
                 some (.out (.inl ((65533, 1, false))))
                else
                 (
                  ck (0 ≤ s110.2 ∧ s110.2 < ((a0.length : Nat) : Int)) <|
                  ck (inR .i32 (bits .and .u8 (a0.getD s110.2.toNat 0) 63)) <|
                  ck (inR .i64 (s110.2 + 1)) <|
                  some (.go (bits .or .i32 (IntKind.wrap .i32 (s110.1 * 2 ^ (6 : Int).toNat)) (bits .and .u8 (a0.getD s110.2.toNat 0) 63), s110.2 + 1))
                 )
               )
             )
            )
          )
         else
          some (.out (.inr (s110.1)))
        ) (v34.2.2.2, 1)).bind fun o138 =>
       sm o138 (fun o152 =>
         some (o152.1, o152.2.1, o152.2.2)
        ) (fun o153 =>
         k107 o153
        )
     ) (fun v106 =>
      some (v106, v34.1, false)
     )
    )
  )
noncomputable def k102 : Eng.CS := { f := 102, calm := true, more := 0, ι := (List Int) × (Int × Int × Bool), ok := fun i => g102 i.1 = some i.2, rds := fun _ => [], args := fun i => [.sl 1 i.1.length (ei .u8 i.1)], res := fun i => .tup [.v (.int .i32 (i.2.1)), .v (.int .i64 (i.2.2.1)), bS i.2.2.2] }
set_option maxRecDepth 8000 in
set_option maxHeartbeats 4000000 in
theorem k102_ok : CalmOk Tryz.prog k102 := by
 refine R.calmspec Tryz.func102 nm102 rfl ?_
 rintro ⟨a0, r⟩ hok q _ args hargs
 match args, hargs with
 | [_], hargs =>
 obtain ⟨⟨A0, cp0, rfl, hc0, _, hR0⟩, _⟩ := hargs
 refine ⟨envC [k105] false [(102, 15), (102, 18)], 6, envC_ok (css_cons ⟨fun _ => k105_ok, fun h => (by cases h)⟩ (css_nil)), rfl, (by intro x hx; simp only [List.mem_cons, List.not_mem_nil, or_false] at hx; rcases hx with rfl <;> rfl), ?_⟩
 have H : Gives (g102 a0) (fun a => a = r) := ⟨r, hok, rfl⟩
 unfold g102 at H
 clear hok
 refine if_st H (fun h32 H => ?_) (fun h32 H => ?_)
 ·have hfin := fin_st H
  repeat refine mf1ZB1 ?_
  first | exact trivial | exact rfl
 ·refine ob_ix hR0 (fun h => ei0 h) H fun h33 H => ?_
  refine ld_int (e := a0.getD (0 : Int).toNat 0) (rd_get hR0 (ei_get (l := a0) (tn h33))) ?_
  obtain ⟨v34, hv35, H⟩ := call_st H
  refine ⟨(a0.getD (0 : Int).toNat 0, v34), ⟨hv35⟩, ⟨trivial⟩, ?_⟩
  refine And.intro ⟨rfl⟩ ?_
  refine if_st H (fun h37 H => ?_) (fun h37 H => ?_)
  ·have hfin := fin_st H
   repeat refine mf1ZB1 ?_
   first | exact trivial | exact rfl
  ·refine R.cut_fam H 25 [5] [] (fun v106 => [(2, .v (.int .i32 (v106)))]) (fun v106 => []) [(10, .cells 136 [.v (.int .i64 (v34.1)), .v (.int .u8 (v34.2.1)), .v (.int .u8 (v34.2.2.1)), .v (.int .i32 (v34.2.2.2))])] 0 (fun H => ?_)
   refine And.intro ?_ ?_
   ·refine R.loop_fam (bind_st H) [0, 5] [] (fun _ s110 => [(2, .v (.int .i32 (s110.1))), (6, .v (.int .i64 (s110.2)))]) (fun _ s110 => []) 0 (fun n154 H => ?_)
    refine ⟨(n154, _), ⟨H⟩, ⟨trivial⟩, ?_⟩
    repeat refine mo1ZB1 ?_
    rintro ⟨m0, s110⟩ H _
    obtain ⟨m111, hm0, H⟩ := IG_succ H
    dsimp only at hm0
    subst hm0
    try dsimp only at H
    refine if_st H (fun h139 H => ?_) (fun h139 H => ?_)
    ·refine if_st H (fun h140 H => ?_) (fun h140 H => ?_)
     ·replace H := some_st H
      dsimp only [stp, sm] at H
      have hfin := fin_st H
      repeat refine mf1ZB1 ?_
      first | exact trivial | exact rfl
     ·refine R.cut_fam H 38 [0, 2, 5, 6] [] (fun v142 => [(7, .v (.int .u8 (v142.1))), (8, .v (.int .u8 (v142.2)))]) (fun v142 => []) [(10, .cells 136 [.v (.int .i64 (v34.1)), .v (.int .u8 (v34.2.1)), .v (.int .u8 (v34.2.2.1)), .v (.int .i32 (v34.2.2.2))])] 0 (fun H => ?_)
      refine And.intro ?_ ?_
      ·refine if_st H (fun h144 H => ?_) (fun h144 H => ?_)
       ·refine And.intro ⟨by kernel_rfl⟩ ?_
        refine ⟨(v34.2.1, v34.2.2.1), ⟨H⟩, ⟨rfl⟩, ?_⟩
        repeat refine mo1ZB1 ?_
        first | exact trivial | exact rfl
       ·refine ⟨(128, 191), ⟨H⟩, ⟨rfl⟩, ?_⟩
        repeat refine mo1ZB1 ?_
        first | exact trivial | exact rfl
      ·intro v142 H
       refine ob_ix hR0 (fun h => ei0 h) H fun h145 H => ?_
       refine ld_int (e := a0.getD s110.2.toNat 0) (rd_get hR0 (ei_get (l := a0) (tn h145))) ?_
       refine if_st H (fun h146 H => ?_) (fun h146 H => ?_)
       ·replace H := some_st H
        dsimp only [stp, sm] at H
        have hfin := fin_st H
        repeat refine mf1ZB1 ?_
        first | exact trivial | exact rfl
       ·refine ob_ix hR0 (fun h => ei0 h) H fun h147 H => ?_
        refine ld_int (e := a0.getD s110.2.toNat 0) (rd_get hR0 (ei_get (l := a0) (tn h147))) ?_
        refine if_st H (fun h148 H => ?_) (fun h148 H => ?_)
        ·replace H := some_st H
         dsimp only [stp, sm] at H
         have hfin := fin_st H
         repeat refine mf1ZB1 ?_
         first | exact trivial | exact rfl
        ·refine And.intro ⟨by decide⟩ ?_
         refine ob_ix hR0 (fun h => ei0 h) H fun h149 H => ?_
         refine ld_int (e := a0.getD s110.2.toNat 0) (rd_get hR0 (ei_get (l := a0) (tn h149))) ?_
         refine ob_ck H fun h150 H => ?_
         refine ob_ck H fun h151 H => ?_
         replace H := some_st H
         refine ⟨(m111, (bits .or .i32 (IntKind.wrap .i32 (s110.1 * 2 ^ (6 : Int).toNat)) (bits .and .u8 (a0.getD s110.2.toNat 0) 63), s110.2 + 1)), ⟨H, Nat.lt_succ_self _⟩, ⟨trivial⟩, ⟨rfl⟩, ?_⟩
         repeat refine mo1ZB1 ?_
         first | exact trivial | exact rfl
    ·replace H := some_st H
     dsimp only [stp, sm] at H
     refine ⟨s110.1, ⟨H⟩, ⟨rfl⟩, ?_⟩
     repeat refine mo1ZB1 ?_
     first | exact trivial | exact rfl
   ·intro v106 H
    refine And.intro ⟨by kernel_rfl⟩ ?_
    have hfin := fin_st H
    repeat refine mf1ZB1 ?_
    first | exact trivial | exact rfl
noncomputable def g82 (a0 : Int) : Option (Int) :=
 ck (inR .i32 (128 + (Int.tmod a0 64))) <|
 some (IntKind.wrap .u8 (128 + (Int.tmod a0 64)))
noncomputable def k82 : Eng.CS := { f := 82, calm := true, more := 0, ι := Int × Int, ok := fun i => g82 i.1 = some i.2, rds := fun _ => [], args := fun i => [.w (.v (.int .i32 (i.1)))], res := fun i => .v (.int .u8 (i.2)) }
set_option maxRecDepth 8000 in
set_option maxHeartbeats 4000000 in
theorem k82_ok : CalmOk Tryz.prog k82 := by
 refine R.calmspec Tryz.func82 nm82 rfl ?_
 rintro ⟨a0, r⟩ hok q _ args hargs
 match args, hargs with
 | [_], hargs =>
 obtain ⟨rfl, _⟩ := hargs
 refine ⟨envC [] false [], 6, envC_ok (css_nil), rfl, (by intro x hx; simp only [List.mem_cons, List.not_mem_nil, or_false] at hx; rcases hx with rfl <;> rfl), ?_⟩
 have H : Gives (g82 a0) (fun a => a = r) := ⟨r, hok, rfl⟩
 unfold g82 at H
 clear hok
 refine And.intro ⟨by decide⟩ ?_
 refine ob_ck H fun h155 H => ?_
 have hfin := fin_st H
 repeat refine mf1ZB1 ?_
 first | exact trivial | exact rfl
noncomputable def g81 (a0 : Int) : Option (Bool) :=
 if 0 ≤ a0 then
  (
   if a0 ≤ 1114111 then
    (
     if a0 < 55296 then
      some true
     else
      some (decide (57343 < a0))
    )
   else
    some false
  )
 else
  some false
noncomputable def k81 : Eng.CS := { f := 81, calm := true, more := 0, ι := Int × Bool, ok := fun i => g81 i.1 = some i.2, rds := fun _ => [], args := fun i => [.w (.v (.int .i32 (i.1)))], res := fun i => bS i.2 }
set_option maxRecDepth 8000 in
set_option maxHeartbeats 4000000 in
theorem k81_ok : CalmOk Tryz.prog k81 := by
 refine R.calmspec Tryz.func81 nm81 rfl ?_
 rintro ⟨a0, r⟩ hok q _ args hargs
 match args, hargs with
 | [_], hargs =>
 obtain ⟨rfl, _⟩ := hargs
 refine ⟨envC [] false [], 6, envC_ok (css_nil), rfl, (by intro x hx; simp only [List.mem_cons, List.not_mem_nil, or_false] at hx; rcases hx with rfl <;> rfl), ?_⟩
 have H : Gives (g81 a0) (fun a => a = r) := ⟨r, hok, rfl⟩
 unfold g81 at H
 clear hok
 refine if_st H (fun h156 H => ?_) (fun h156 H => ?_)
 ·refine if_st H (fun h157 H => ?_) (fun h157 H => ?_)
  ·refine if_st H (fun h158 H => ?_) (fun h158 H => ?_)
   ·have hfin := fin_st H
    repeat refine mf1ZB1 ?_
    first | exact trivial | exact rfl
   ·have hfin := fin_st H
    repeat refine mf1ZB1 ?_
    first | exact trivial | exact rfl
  ·have hfin := fin_st H
   repeat refine mf1ZB1 ?_
   first | exact trivial | exact rfl
 ·have hfin := fin_st H
  repeat refine mf1ZB1 ?_
  first | exact trivial | exact rfl
noncomputable def g79 (a0 : Int) : Option (List Int) :=
 jn (α := _) (β := Int) (fun k166 =>
   (g96 a0).bind fun v167 =>
   if ¬ (v167 = true) then
    k166 65533
   else
    k166 a0
 ) (fun v165 =>
  if v165 < 128 then
   some ([IntKind.wrap .u8 v165])
  else
   (
    if v165 < 2048 then
     (
      (g97 v165 0).bind fun v181 =>
      some ([bits .or .u8 192 (IntKind.wrap .u8 (v165 / 2 ^ (6 : Int).toNat)), v181])
     )
    else
     (
      if v165 < 65536 then
       (
        (g97 v165 6).bind fun v184 =>
        (g97 v165 0).bind fun v186 =>
        some ([bits .or .u8 224 (IntKind.wrap .u8 (v165 / 2 ^ (12 : Int).toNat)), v184, v186])
       )
      else
       (
        (g97 v165 12).bind fun v188 =>
        (g97 v165 6).bind fun v190 =>
        (g97 v165 0).bind fun v192 =>
        some ([bits .or .u8 240 (IntKind.wrap .u8 (v165 / 2 ^ (18 : Int).toNat)), v188, v190, v192])
       )
     )
   )
 )
noncomputable def k79 : Eng.CS := { f := 79, calm := false, more := 1, ι := Int × List Int, ok := fun i => g79 i.1 = some i.2, rds := fun _ => [], args := fun i => [.w (.v (.int .i32 (i.1)))], res := fun i => .own 0, L' := fun i => [(0, .arr 5 1 i.2.length (ei .u8 i.2))], rn := [(0, 0, 5, 1)] }
set_option maxRecDepth 8000 in
set_option maxHeartbeats 4000000 in
theorem k79_ok : CSOk Tryz.prog k79 := by
 refine R.cspec Tryz.func79 nm79 rfl ?_
 rintro ⟨a0, r⟩ hok q _ args hargs
 match args, hargs with
 | [_], hargs =>
 obtain ⟨rfl, _⟩ := hargs
 refine ⟨envC [k96, k97] false [(79, 3)], 6, envC_ok (css_cons ⟨fun _ => k96_ok, fun h => (by cases h)⟩ (css_cons ⟨fun _ => k97_ok, fun h => (by cases h)⟩ (css_nil))), ?_⟩
 have H : Gives (g79 a0) (fun a => a = r) := ⟨r, hok, rfl⟩
 unfold g79 at H
 clear hok
 refine R.cut_fam H 6 [] [] (fun v165 => [(0, .v (.int .i32 (v165)))]) (fun v165 => []) [] 0 (fun H => ?_)
 refine And.intro ?_ ?_
 ·obtain ⟨v167, hv168, H⟩ := call_st H
  refine ⟨(a0, v167), ⟨hv168⟩, ⟨trivial⟩, ?_⟩
  refine And.intro ⟨rfl⟩ ?_
  refine if_st H (fun h169 H => ?_) (fun h169 H => ?_)
  ·refine ⟨65533, ⟨H⟩, ⟨rfl⟩, ?_⟩
   repeat refine mo1ZB1 ?_
   first | exact trivial | exact rfl
  ·refine ⟨a0, ⟨H⟩, ⟨rfl⟩, ?_⟩
   repeat refine mo1ZB1 ?_
   first | exact trivial | exact rfl
 ·intro v165 H
  refine if_st H (fun h179 H => ?_) (fun h179 H => ?_)
  ·have hfin := fin_st H
   repeat refine mf1ZB1 ?_
   first | exact trivial | exact rfl
  ·refine if_st H (fun h180 H => ?_) (fun h180 H => ?_)
   ·refine And.intro ⟨by decide⟩ ?_
    obtain ⟨v181, hv182, H⟩ := call_st H
    refine ⟨(v165, 0, v181), ⟨hv182⟩, ⟨trivial⟩, ?_⟩
    iterate 2 refine And.intro ⟨rfl⟩ ?_
    have hfin := fin_st H
    repeat refine mf1ZB1 ?_
    first | exact trivial | exact rfl
   ·refine if_st H (fun h183 H => ?_) (fun h183 H => ?_)
    ·refine And.intro ⟨by decide⟩ ?_
     obtain ⟨v184, hv185, H⟩ := call_st H
     refine ⟨(v165, 6, v184), ⟨hv185⟩, ⟨trivial⟩, ?_⟩
     iterate 2 refine And.intro ⟨rfl⟩ ?_
     obtain ⟨v186, hv187, H⟩ := call_st H
     refine ⟨(v165, 0, v186), ⟨hv187⟩, ⟨trivial⟩, ?_⟩
     iterate 2 refine And.intro ⟨rfl⟩ ?_
     have hfin := fin_st H
     repeat refine mf1ZB1 ?_
     first | exact trivial | exact rfl
    ·refine And.intro ⟨by decide⟩ ?_
     obtain ⟨v188, hv189, H⟩ := call_st H
     refine ⟨(v165, 12, v188), ⟨hv189⟩, ⟨trivial⟩, ?_⟩
     iterate 2 refine And.intro ⟨rfl⟩ ?_
     obtain ⟨v190, hv191, H⟩ := call_st H
     refine ⟨(v165, 6, v190), ⟨hv191⟩, ⟨trivial⟩, ?_⟩
     iterate 2 refine And.intro ⟨rfl⟩ ?_
     obtain ⟨v192, hv193, H⟩ := call_st H
     refine ⟨(v165, 0, v192), ⟨hv193⟩, ⟨trivial⟩, ?_⟩
     iterate 2 refine And.intro ⟨rfl⟩ ?_
     have hfin := fin_st H
     repeat refine mf1ZB1 ?_
     first | exact trivial | exact rfl
noncomputable def g68 (a0 : Int) : Option (List Int) :=
 jn (α := _) (β := Int) (fun k201 =>
   (g81 a0).bind fun v202 =>
   if ¬ (v202 = true) then
    k201 65533
   else
    k201 a0
 ) (fun v200 =>
  if v200 < 128 then
   some ([IntKind.wrap .u8 v200])
  else
   (
    if v200 < 2048 then
     (
      ck (inR .i32 (Int.tdiv v200 64)) <|
      ck (inR .i32 (192 + (Int.tdiv v200 64))) <|
      (g82 v200).bind fun v223 =>
      some ([IntKind.wrap .u8 (192 + (Int.tdiv v200 64)), v223])
     )
    else
     (
      if v200 < 65536 then
       (
        ck (inR .i32 (Int.tdiv v200 4096)) <|
        ck (inR .i32 (224 + (Int.tdiv v200 4096))) <|
        ck (inR .i32 (Int.tdiv v200 64)) <|
        (g82 (Int.tdiv v200 64)).bind fun v229 =>
        (g82 v200).bind fun v231 =>
        some ([IntKind.wrap .u8 (224 + (Int.tdiv v200 4096)), v229, v231])
       )
      else
       (
        ck (inR .i32 (Int.tdiv v200 262144)) <|
        ck (inR .i32 (240 + (Int.tdiv v200 262144))) <|
        ck (inR .i32 (Int.tdiv v200 4096)) <|
        (g82 (Int.tdiv v200 4096)).bind fun v236 =>
        ck (inR .i32 (Int.tdiv v200 64)) <|
        (g82 (Int.tdiv v200 64)).bind fun v239 =>
        (g82 v200).bind fun v241 =>
        some ([IntKind.wrap .u8 (240 + (Int.tdiv v200 262144)), v236, v239, v241])
       )
     )
   )
 )
noncomputable def k68 : Eng.CS := { f := 68, calm := false, more := 1, ι := Int × List Int, ok := fun i => g68 i.1 = some i.2, rds := fun _ => [], args := fun i => [.w (.v (.int .i32 (i.1)))], res := fun i => .own 0, L' := fun i => [(0, .arr 5 1 i.2.length (ei .u8 i.2))], rn := [(0, 0, 5, 1)] }
set_option maxRecDepth 8000 in
set_option maxHeartbeats 4000000 in
theorem k68_ok : CSOk Tryz.prog k68 := by
 refine R.cspec Tryz.func68 nm68 rfl ?_
 rintro ⟨a0, r⟩ hok q _ args hargs
 match args, hargs with
 | [_], hargs =>
 obtain ⟨rfl, _⟩ := hargs
 refine ⟨envC [k81, k82] false [(68, 3)], 6, envC_ok (css_cons ⟨fun _ => k81_ok, fun h => (by cases h)⟩ (css_cons ⟨fun _ => k82_ok, fun h => (by cases h)⟩ (css_nil))), ?_⟩
 have H : Gives (g68 a0) (fun a => a = r) := ⟨r, hok, rfl⟩
 unfold g68 at H
 clear hok
 refine R.cut_fam H 6 [] [] (fun v200 => [(0, .v (.int .i32 (v200)))]) (fun v200 => []) [] 0 (fun H => ?_)
 refine And.intro ?_ ?_
 ·obtain ⟨v202, hv203, H⟩ := call_st H
  refine ⟨(a0, v202), ⟨hv203⟩, ⟨trivial⟩, ?_⟩
  refine And.intro ⟨rfl⟩ ?_
  refine if_st H (fun h204 H => ?_) (fun h204 H => ?_)
  ·refine ⟨65533, ⟨H⟩, ⟨rfl⟩, ?_⟩
   repeat refine mo1ZB1 ?_
   first | exact trivial | exact rfl
  ·refine ⟨a0, ⟨H⟩, ⟨rfl⟩, ?_⟩
   repeat refine mo1ZB1 ?_
   first | exact trivial | exact rfl
 ·intro v200 H
  refine if_st H (fun h219 H => ?_) (fun h219 H => ?_)
  ·have hfin := fin_st H
   repeat refine mf1ZB1 ?_
   first | exact trivial | exact rfl
  ·refine if_st H (fun h220 H => ?_) (fun h220 H => ?_)
   ·refine And.intro ⟨by decide⟩ ?_
    refine ob_ck H fun h221 H => ?_
    refine ob_ck H fun h222 H => ?_
    obtain ⟨v223, hv224, H⟩ := call_st H
    refine ⟨(v200, v223), ⟨hv224⟩, ⟨trivial⟩, ?_⟩
    refine And.intro ⟨rfl⟩ ?_
    have hfin := fin_st H
    repeat refine mf1ZB1 ?_
    first | exact trivial | exact rfl
   ·refine if_st H (fun h225 H => ?_) (fun h225 H => ?_)
    ·refine And.intro ⟨by decide⟩ ?_
     refine ob_ck H fun h226 H => ?_
     refine ob_ck H fun h227 H => ?_
     refine And.intro ⟨by decide⟩ ?_
     refine ob_ck H fun h228 H => ?_
     obtain ⟨v229, hv230, H⟩ := call_st H
     refine ⟨(Int.tdiv v200 64, v229), ⟨hv230⟩, ⟨trivial⟩, ?_⟩
     refine And.intro ⟨rfl⟩ ?_
     obtain ⟨v231, hv232, H⟩ := call_st H
     refine ⟨(v200, v231), ⟨hv232⟩, ⟨trivial⟩, ?_⟩
     refine And.intro ⟨rfl⟩ ?_
     have hfin := fin_st H
     repeat refine mf1ZB1 ?_
     first | exact trivial | exact rfl
    ·refine And.intro ⟨by decide⟩ ?_
     refine ob_ck H fun h233 H => ?_
     refine ob_ck H fun h234 H => ?_
     refine And.intro ⟨by decide⟩ ?_
     refine ob_ck H fun h235 H => ?_
     obtain ⟨v236, hv237, H⟩ := call_st H
     refine ⟨(Int.tdiv v200 4096, v236), ⟨hv237⟩, ⟨trivial⟩, ?_⟩
     refine And.intro ⟨rfl⟩ ?_
     refine And.intro ⟨by decide⟩ ?_
     refine ob_ck H fun h238 H => ?_
     obtain ⟨v239, hv240, H⟩ := call_st H
     refine ⟨(Int.tdiv v200 64, v239), ⟨hv240⟩, ⟨trivial⟩, ?_⟩
     refine And.intro ⟨rfl⟩ ?_
     obtain ⟨v241, hv242, H⟩ := call_st H
     refine ⟨(v200, v241), ⟨hv242⟩, ⟨trivial⟩, ?_⟩
     refine And.intro ⟨rfl⟩ ?_
     have hfin := fin_st H
     repeat refine mf1ZB1 ?_
     first | exact trivial | exact rfl
noncomputable def g88 (a0 : Int) : Option (Int) :=
 if a0 < 128 then
  some 1
 else
  (
   jn (α := _) (β := Bool) (fun k261 =>
     if 194 ≤ a0 then
      k261 (decide (a0 < 224))
     else
      k261 false
   ) (fun v260 =>
    if v260 = true then
     some 2
    else
     (
      if 224 ≤ a0 then
       (
        if a0 < 240 then
         some 3
        else
         (
          if 240 ≤ a0 then
           (
            if a0 < 245 then
             some 4
            else
             some 0
           )
          else
           some 0
         )
       )
      else
       (
        if 240 ≤ a0 then
         (
          if a0 < 245 then
           some 4
          else
           some 0
         )
        else
         some 0
       )
     )
   )
  )
noncomputable def k88 : Eng.CS := { f := 88, calm := true, more := 0, ι := Int × Int, ok := fun i => g88 i.1 = some i.2, rds := fun _ => [], args := fun i => [.w (.v (.int .u8 (i.1)))], res := fun i => .v (.int .i64 (i.2)) }
set_option maxRecDepth 8000 in
set_option maxHeartbeats 4000000 in
theorem k88_ok : CalmOk Tryz.prog k88 := by
 refine R.calmspec Tryz.func88 nm88 rfl ?_
 rintro ⟨a0, r⟩ hok q _ args hargs
 match args, hargs with
 | [_], hargs =>
 obtain ⟨rfl, _⟩ := hargs
 refine ⟨envC [] false [(88, 4)], 6, envC_ok (css_nil), rfl, (by intro x hx; simp only [List.mem_cons, List.not_mem_nil, or_false] at hx; rcases hx with rfl <;> rfl), ?_⟩
 have H : Gives (g88 a0) (fun a => a = r) := ⟨r, hok, rfl⟩
 unfold g88 at H
 clear hok
 refine if_st H (fun h258 H => ?_) (fun h258 H => ?_)
 ·have hfin := fin_st H
  repeat refine mf1ZB1 ?_
  first | exact trivial | exact rfl
 ·refine R.cut_fam H 12 [0] [] (fun v260 => [(6, bS v260)]) (fun v260 => []) [] 0 (fun H => ?_)
  refine And.intro ?_ ?_
  ·refine if_st H (fun h262 H => ?_) (fun h262 H => ?_)
   ·refine ⟨(decide (a0 < 224)), ⟨H⟩, ⟨rfl⟩, ?_⟩
    repeat refine mo1ZB1 ?_
    first | exact trivial | exact rfl
   ·refine ⟨false, ⟨H⟩, ⟨rfl⟩, ?_⟩
    repeat refine mo1ZB1 ?_
    first | exact trivial | exact rfl
  ·intro v260 H
   refine if_st H (fun h263 H => ?_) (fun h263 H => ?_)
   ·have hfin := fin_st H
    repeat refine mf1ZB1 ?_
    first | exact trivial | exact rfl
   ·refine if_st H (fun h264 H => ?_) (fun h264 H => ?_)
    ·refine if_st H (fun h265 H => ?_) (fun h265 H => ?_)
     ·have hfin := fin_st H
      repeat refine mf1ZB1 ?_
      first | exact trivial | exact rfl
     ·refine if_st H (fun h266 H => ?_) (fun h266 H => ?_)
      ·refine if_st H (fun h267 H => ?_) (fun h267 H => ?_)
       ·have hfin := fin_st H
        repeat refine mf1ZB1 ?_
        first | exact trivial | exact rfl
       ·have hfin := fin_st H
        repeat refine mf1ZB1 ?_
        first | exact trivial | exact rfl
      ·have hfin := fin_st H
       repeat refine mf1ZB1 ?_
       first | exact trivial | exact rfl
    ·refine if_st H (fun h268 H => ?_) (fun h268 H => ?_)
     ·refine if_st H (fun h269 H => ?_) (fun h269 H => ?_)
      ·have hfin := fin_st H
       repeat refine mf1ZB1 ?_
       first | exact trivial | exact rfl
      ·have hfin := fin_st H
       repeat refine mf1ZB1 ?_
       first | exact trivial | exact rfl
     ·have hfin := fin_st H
      repeat refine mf1ZB1 ?_
      first | exact trivial | exact rfl
noncomputable def g90 (a0 : List Int) : Option (Int) :=
 if ((a0.length : Nat) : Int) < 2 then
  (
   ck (0 ≤ (0 : Int) ∧ 0 < ((a0.length : Nat) : Int)) <|
   ck (inR .i32 (a0.getD (0 : Int).toNat 0)) <|
   some (a0.getD (0 : Int).toNat 0)
  )
 else
  (
   if 4 < ((a0.length : Nat) : Int) then
    (
     ck (0 ≤ (0 : Int) ∧ 0 < ((a0.length : Nat) : Int)) <|
     ck (inR .i32 (a0.getD (0 : Int).toNat 0)) <|
     some (a0.getD (0 : Int).toNat 0)
    )
   else
    (
     ck (0 ≤ (0 : Int) ∧ 0 < ((a0.length : Nat) : Int)) <|
     ck (inR .i64 (a0.getD (0 : Int).toNat 0)) <|
     ck (0 ≤ ((a0.length : Nat) : Int) ∧ ((a0.length : Nat) : Int) < ((5 : Nat) : Int)) <|
     ck (inR .i64 ((a0.getD (0 : Int).toNat 0) - (([0, 0, 192, 224, 240]).getD ((a0.length : Nat) : Int).toNat 0))) <|
     jn (α := _) (β := Int) (fun k317 =>
       (loopO (σ := Int × Int) (ρ := Int) (fun s320 =>
         if s320.2 < ((a0.length : Nat) : Int) then
          (
           ck (inR .i32 (s320.1 * 64)) <|
           ck (0 ≤ s320.2 ∧ s320.2 < ((a0.length : Nat) : Int)) <|
           ck (inR .i32 (Int.tmod (a0.getD s320.2.toNat 0) 64)) <|
           ck (inR .i32 ((s320.1 * 64) + (Int.tmod (a0.getD s320.2.toNat 0) 64))) <|
           ck (inR .i64 (s320.2 + 1)) <|
           some (.go ((s320.1 * 64) + (Int.tmod (a0.getD s320.2.toNat 0) 64), s320.2 + 1))
          )
         else
          some (.out s320.1)
        ) (IntKind.wrap .i32 ((a0.getD (0 : Int).toNat 0) - (([0, 0, 192, 224, 240]).getD ((a0.length : Nat) : Int).toNat 0)), 1)).bind fun o334 =>
        k317 o334
     ) (fun v316 =>
      some v316
     )
    )
  )
noncomputable def k90 : Eng.CS := { f := 90, calm := true, more := 0, ι := (List Int) × Int, ok := fun i => g90 i.1 = some i.2, rds := fun _ => [], args := fun i => [.sl 1 i.1.length (ei .u8 i.1)], res := fun i => .v (.int .i32 (i.2)) }
set_option maxRecDepth 8000 in
set_option maxHeartbeats 4000000 in
theorem k90_ok : CalmOk Tryz.prog k90 := by
 refine R.calmspec Tryz.func90 nm90 rfl ?_
 rintro ⟨a0, r⟩ hok q _ args hargs
 match args, hargs with
 | [_], hargs =>
 obtain ⟨⟨A0, cp0, rfl, hc0, _, hR0⟩, _⟩ := hargs
 refine ⟨envC [] false [(90, 9)], 6, envC_ok (css_nil), rfl, (by intro x hx; simp only [List.mem_cons, List.not_mem_nil, or_false] at hx; rcases hx with rfl <;> rfl), ?_⟩
 have H : Gives (g90 a0) (fun a => a = r) := ⟨r, hok, rfl⟩
 unfold g90 at H
 clear hok
 refine if_st H (fun h277 H => ?_) (fun h277 H => ?_)
 ·refine ob_ix hR0 (fun h => ei0 h) H fun h278 H => ?_
  refine ld_int (e := a0.getD (0 : Int).toNat 0) (rd_get hR0 (ei_get (l := a0) (tn h278))) ?_
  refine ob_ck H fun h279 H => ?_
  have hfin := fin_st H
  repeat refine mf1ZB1 ?_
  first | exact trivial | exact rfl
 ·refine if_st H (fun h280 H => ?_) (fun h280 H => ?_)
  ·refine ob_ix hR0 (fun h => ei0 h) H fun h281 H => ?_
   refine ld_int (e := a0.getD (0 : Int).toNat 0) (rd_get hR0 (ei_get (l := a0) (tn h281))) ?_
   refine ob_ck H fun h282 H => ?_
   have hfin := fin_st H
   repeat refine mf1ZB1 ?_
   first | exact trivial | exact rfl
  ·refine And.intro ⟨by kernel_rfl⟩ ?_
   refine ob_ix hR0 (fun h => ei0 h) H fun h283 H => ?_
   refine ld_int (e := a0.getD (0 : Int).toNat 0) (rd_get hR0 (ei_get (l := a0) (tn h283))) ?_
   refine ob_ck H fun h284 H => ?_
   refine ob_ck H fun h285 H => ?_
   refine ld_int (e := ([0, 0, 192, 224, 240]).getD ((a0.length : Nat) : Int).toNat 0) (own_get (ys := ei .i64 ([0, 0, 192, 224, 240])) (by first | rfl | simp [ei, eb, es, ec]) (ei_get (l := [0, 0, 192, 224, 240]) (by first | exact tn h285 | (have := tn h285; simp at this ⊢; omega) | (have := tn h285; simp; omega)))) ?_
   refine ob_ck H fun h286 H => ?_
   refine R.cut_fam H 30 [] [] (fun v316 => [(4, .v (.int .i32 (v316)))]) (fun v316 => []) [(1, .arr 3 1 (5) (ei .i64 ([0, 0, 192, 224, 240])))] 0 (fun H => ?_)
   refine And.intro ?_ ?_
   ·refine R.loop_fam (bind_st H) [0] [] (fun _ s320 => [(4, .v (.int .i32 (s320.1))), (5, .v (.int .i64 (s320.2)))]) (fun _ s320 => []) 0 (fun n341 H => ?_)
    refine ⟨(n341, _), ⟨H⟩, ⟨trivial⟩, ?_⟩
    repeat refine mo1ZB1 ?_
    rintro ⟨m0, s320⟩ H _
    obtain ⟨m321, hm0, H⟩ := IG_succ H
    dsimp only at hm0
    subst hm0
    try dsimp only at H
    refine if_st H (fun h335 H => ?_) (fun h335 H => ?_)
    ·refine ob_ck H fun h336 H => ?_
     refine ob_ix hR0 (fun h => ei0 h) H fun h337 H => ?_
     refine ld_int (e := a0.getD s320.2.toNat 0) (rd_get hR0 (ei_get (l := a0) (tn h337))) ?_
     refine And.intro ⟨by decide⟩ ?_
     refine ob_ck H fun h338 H => ?_
     refine ob_ck H fun h339 H => ?_
     refine ob_ck H fun h340 H => ?_
     replace H := some_st H
     refine ⟨(m321, ((s320.1 * 64) + (Int.tmod (a0.getD s320.2.toNat 0) 64), s320.2 + 1)), ⟨H, Nat.lt_succ_self _⟩, ⟨trivial⟩, ⟨rfl⟩, ?_⟩
     repeat refine mo1ZB1 ?_
     first | exact trivial | exact rfl
    ·replace H := some_st H
     dsimp only [stp, sm] at H
     refine ⟨s320.1, ⟨H⟩, ⟨rfl⟩, ?_⟩
     repeat refine mo1ZB1 ?_
     first | exact trivial | exact rfl
   ·intro v316 H
    have hfin := fin_st H
    repeat refine mf1ZB1 ?_
    first | exact trivial | exact rfl
noncomputable def g101 (a0 : List Int) : Option (Bool) :=
 jn (α := _) (β := Unit) (fun k377 =>
   (loopO (σ := Int) (ρ := (Unit) ⊕ (Unit)) (fun s380 =>
     if s380 < ((a0.length : Nat) : Int) then
      (
       ck (0 ≤ s380 ∧ s380 < ((a0.length : Nat) : Int)) <|
       if (a0.getD s380.toNat 0) < 128 then
        some (.out (.inl (())))
       else
        (
         ck (0 ≤ s380 ∧ s380 < ((a0.length : Nat) : Int)) <|
         if 191 < (a0.getD s380.toNat 0) then
          some (.out (.inl (())))
         else
          (
           ck (inR .i64 (s380 + 1)) <|
           some (.go (s380 + 1))
          )
        )
      )
     else
      some (.out (.inr (())))
    ) 1).bind fun o394 =>
   sm o394 (fun o401 =>
     some false
    ) (fun o402 =>
     k377 ()
    )
 ) (fun v376 =>
  some true
 )
noncomputable def k101 : Eng.CS := { f := 101, calm := true, more := 0, ι := (List Int) × Bool, ok := fun i => g101 i.1 = some i.2, rds := fun _ => [], args := fun i => [.sl 1 i.1.length (ei .u8 i.1)], res := fun i => bS i.2 }
set_option maxRecDepth 8000 in
set_option maxHeartbeats 4000000 in
theorem k101_ok : CalmOk Tryz.prog k101 := by
 refine R.calmspec Tryz.func101 nm101 rfl ?_
 rintro ⟨a0, r⟩ hok q _ args hargs
 match args, hargs with
 | [_], hargs =>
 obtain ⟨⟨A0, cp0, rfl, hc0, _, hR0⟩, _⟩ := hargs
 refine ⟨envC [] false [(101, 6)], 6, envC_ok (css_nil), rfl, (by intro x hx; simp only [List.mem_cons, List.not_mem_nil, or_false] at hx; rcases hx with rfl <;> rfl), ?_⟩
 have H : Gives (g101 a0) (fun a => a = r) := ⟨r, hok, rfl⟩
 unfold g101 at H
 clear hok
 refine R.cut_fam H 8 [] [] (fun v376 => []) (fun v376 => []) [] 0 (fun H => ?_)
 refine And.intro ?_ ?_
 ·refine R.loop_fam (bind_st H) [0] [] (fun _ s380 => [(3, .v (.int .i64 (s380)))]) (fun _ s380 => []) 0 (fun n403 H => ?_)
  refine ⟨(n403, _), ⟨H⟩, ⟨trivial⟩, ?_⟩
  repeat refine mo1ZB1 ?_
  rintro ⟨m0, s380⟩ H _
  obtain ⟨m381, hm0, H⟩ := IG_succ H
  dsimp only at hm0
  subst hm0
  try dsimp only at H
  refine if_st H (fun h395 H => ?_) (fun h395 H => ?_)
  ·refine ob_ix hR0 (fun h => ei0 h) H fun h396 H => ?_
   refine ld_int (e := a0.getD s380.toNat 0) (rd_get hR0 (ei_get (l := a0) (tn h396))) ?_
   refine if_st H (fun h397 H => ?_) (fun h397 H => ?_)
   ·replace H := some_st H
    dsimp only [stp, sm] at H
    have hfin := fin_st H
    repeat refine mf1ZB1 ?_
    first | exact trivial | exact rfl
   ·refine ob_ix hR0 (fun h => ei0 h) H fun h398 H => ?_
    refine ld_int (e := a0.getD s380.toNat 0) (rd_get hR0 (ei_get (l := a0) (tn h398))) ?_
    refine if_st H (fun h399 H => ?_) (fun h399 H => ?_)
    ·replace H := some_st H
     dsimp only [stp, sm] at H
     have hfin := fin_st H
     repeat refine mf1ZB1 ?_
     first | exact trivial | exact rfl
    ·refine ob_ck H fun h400 H => ?_
     replace H := some_st H
     refine ⟨(m381, s380 + 1), ⟨H, Nat.lt_succ_self _⟩, ⟨trivial⟩, ⟨rfl⟩, ?_⟩
     repeat refine mo1ZB1 ?_
     first | exact trivial | exact rfl
  ·replace H := some_st H
   dsimp only [stp, sm] at H
   refine ⟨(), ⟨H⟩, ⟨rfl⟩, ?_⟩
   repeat refine mo1ZB1 ?_
   first | exact trivial | exact rfl
 ·intro v376 H
  have hfin := fin_st H
  repeat refine mf1ZB1 ?_
  first | exact trivial | exact rfl
noncomputable def g89 (a0 : List Int) : Option (Bool) :=
 ck (0 ≤ (0 : Int) ∧ 0 < ((a0.length : Nat) : Int)) <|
 (g88 (a0.getD (0 : Int).toNat 0)).bind fun v405 =>
 if v405 < ((a0.length : Nat) : Int) then
  some false
 else
  (
   (g101 a0).bind fun v415 =>
   if ¬ (v415 = true) then
    some false
   else
    (
     ck ((0 + a0.length) * 1 ≤ 140737488355328) <|
     ck ((0 + a0.length) * 1 ≤ 140737488355328) <|
     jn (α := _) (β := List Int × List Int) (fun k469 =>
       (loopO (σ := List Int × List Int) (ρ := List Int × List Int) (fun s472 =>
         if ((s472.1.length : Nat) : Int) < v405 then
          (
           ck ((s472.1.length + 1) * 1 ≤ 140737488355328) <|
           ck ((s472.2.length + 1) * 1 ≤ 140737488355328) <|
           some (.go ((s472.1 ++ [128]), (s472.2 ++ [191])))
          )
         else
          some (.out (s472.1, s472.2))
        ) (([] ++ a0), ([] ++ a0))).bind fun o496 =>
        k469 (o496.1, o496.2)
     ) (fun v468 =>
      (g90 v468.1).bind fun v509 =>
      (g90 v468.2).bind fun v511 =>
      ck (0 ≤ v405 ∧ v405 < ((5 : Nat) : Int)) <|
      if (([0, 0, 128, 2048, 65536]).getD v405.toNat 0) ≤ v511 then
       (
        if v509 ≤ 1114111 then
         (
          if v509 < 55296 then
           some true
          else
           some (decide (57343 < v511))
         )
        else
         some false
       )
      else
       some false
     )
    )
  )
noncomputable def k89 : Eng.CS := { f := 89, calm := true, more := 0, ι := (List Int) × Bool, ok := fun i => g89 i.1 = some i.2, rds := fun _ => [], args := fun i => [.sl 1 i.1.length (ei .u8 i.1)], res := fun i => bS i.2 }
set_option maxRecDepth 8000 in
set_option maxHeartbeats 4000000 in
theorem k89_ok : CalmOk Tryz.prog k89 := by
 refine R.calmspec Tryz.func89 nm89 rfl ?_
 rintro ⟨a0, r⟩ hok q _ args hargs
 match args, hargs with
 | [_], hargs =>
 obtain ⟨⟨A0, cp0, rfl, hc0, _, hR0⟩, _⟩ := hargs
 refine ⟨envC [k88, k90, k101] false [(89, 7)], 6, envC_ok (css_cons ⟨fun _ => k88_ok, fun h => (by cases h)⟩ (css_cons ⟨fun _ => k90_ok, fun h => (by cases h)⟩ (css_cons ⟨fun _ => k101_ok, fun h => (by cases h)⟩ (css_nil)))), rfl, (by intro x hx; simp only [List.mem_cons, List.not_mem_nil, or_false] at hx; rcases hx with rfl <;> rfl), ?_⟩
 have H : Gives (g89 a0) (fun a => a = r) := ⟨r, hok, rfl⟩
 unfold g89 at H
 clear hok
 refine ob_ix hR0 (fun h => ei0 h) H fun h404 H => ?_
 refine ld_int (e := a0.getD (0 : Int).toNat 0) (rd_get hR0 (ei_get (l := a0) (tn h404))) ?_
 obtain ⟨v405, hv406, H⟩ := call_st H
 refine ⟨(a0.getD (0 : Int).toNat 0, v405), ⟨hv406⟩, ⟨trivial⟩, ?_⟩
 refine And.intro ⟨rfl⟩ ?_
 refine if_st H (fun h414 H => ?_) (fun h414 H => ?_)
 ·have hfin := fin_st H
  repeat refine mf1ZB1 ?_
  first | exact trivial | exact rfl
 ·obtain ⟨v415, hv416, H⟩ := call_st H
  refine ⟨(a0, v415), ⟨hv416⟩, ⟨trivial⟩, ?_⟩
  refine And.intro ⟨rfl, hc0, ei_len.trans ((show _ = _ from rfl).trans (Nat.mul_one _).symm), hR0⟩ ?_
  refine if_st H (fun h417 H => ?_) (fun h417 H => ?_)
  ·have hfin := fin_st H
   repeat refine mf1ZB1 ?_
   first | exact trivial | exact rfl
  ·refine rs_st hR0 (by rw [ei_len]; simp) ?_
   refine ob_app (by decide) (by first | exact ei_one | ((repeat (refine List.forall_mem_cons.2 ⟨rfl, ?_⟩)); intro y hy; cases hy; done) | (intro y hy; simp [ei, eb, es, ec] at hy; (first | (rcases hy with rfl | hy) | subst hy | skip); all_goals first | rfl | simp_all [Value.oneCell'])) H fun h418 H => ?_
   intro n419 zs421 hn420 hz422
   subst hn420 hz422
   refine rs_st hR0 (by rw [ei_len]; simp) ?_
   refine ob_app (by decide) (by first | exact ei_one | ((repeat (refine List.forall_mem_cons.2 ⟨rfl, ?_⟩)); intro y hy; cases hy; done) | (intro y hy; simp [ei, eb, es, ec] at hy; (first | (rcases hy with rfl | hy) | subst hy | skip); all_goals first | rfl | simp_all [Value.oneCell'])) H fun h423 H => ?_
   intro n424 zs426 hn425 hz427
   subst hn425 hz427
   refine R.cut_fam H 33 [3] [] (fun v468 => [(4, .own 33), (5, .own 34)]) (fun v468 => [(33, .arr 5 1 (v468.1.length) (ei .u8 (v468.1))), (34, .arr 5 1 (v468.2.length) (ei .u8 (v468.2)))]) [] 2 (fun H => ?_)
   refine And.intro ?_ ?_
   ·refine R.loop_fam (bind_st H) [3] [] (fun _ s472 => [(4, .own 23), (5, .own 24)]) (fun _ s472 => [(23, .arr 5 1 (s472.1.length) (ei .u8 (s472.1))), (24, .arr 5 1 (s472.2.length) (ei .u8 (s472.2)))]) 2 (fun n508 H => ?_)
    refine ⟨(n508, _), ⟨H⟩, ⟨trivial⟩, ?_⟩
    repeat refine mo1ZB1 ?_
    rintro ⟨m0, s472⟩ H _
    obtain ⟨m473, hm0, H⟩ := IG_succ H
    dsimp only at hm0
    subst hm0
    try dsimp only at H
    refine if_st H (fun h497 H => ?_) (fun h497 H => ?_)
    ·refine ob_app (by decide) (by first | exact ei_one | ((repeat (refine List.forall_mem_cons.2 ⟨rfl, ?_⟩)); intro y hy; cases hy; done) | (intro y hy; simp [ei, eb, es, ec] at hy; (first | (rcases hy with rfl | hy) | subst hy | skip); all_goals first | rfl | simp_all [Value.oneCell'])) H fun h498 H => ?_
     intro n499 zs501 hn500 hz502
     subst hn500 hz502
     refine ob_app (by decide) (by first | exact ei_one | ((repeat (refine List.forall_mem_cons.2 ⟨rfl, ?_⟩)); intro y hy; cases hy; done) | (intro y hy; simp [ei, eb, es, ec] at hy; (first | (rcases hy with rfl | hy) | subst hy | skip); all_goals first | rfl | simp_all [Value.oneCell'])) H fun h503 H => ?_
     intro n504 zs506 hn505 hz507
     subst hn505 hz507
     replace H := some_st H
     refine ⟨(m473, ((s472.1 ++ [128]), (s472.2 ++ [191]))), ⟨H, Nat.lt_succ_self _⟩, ⟨trivial⟩, ⟨rfl⟩, ?_⟩
     repeat refine mo1ZB1 ?_
     first | exact trivial | exact rfl
    ·replace H := some_st H
     dsimp only [stp, sm] at H
     refine ⟨(s472.1, s472.2), ⟨H⟩, ⟨rfl⟩, ?_⟩
     repeat refine mo1ZB1 ?_
     first | exact trivial | exact rfl
   ·intro v468 H
    obtain ⟨v509, hv510, H⟩ := call_st H
    refine ⟨(v468.1, v509), ⟨hv510⟩, ⟨trivial⟩, ?_⟩
    refine And.intro ⟨by first | rfl | (simp; done), by first | rfl | (simp [ei, eb, es, ec]; done) | (simp only [ei, eb, es, ec, List.map_append, List.nil_append, List.append_assoc]; rfl)⟩ ?_
    obtain ⟨v511, hv512, H⟩ := call_st H
    refine ⟨(v468.2, v511), ⟨hv512⟩, ⟨trivial⟩, ?_⟩
    refine And.intro ⟨by first | rfl | (simp; done), by first | rfl | (simp [ei, eb, es, ec]; done) | (simp only [ei, eb, es, ec, List.map_append, List.nil_append, List.append_assoc]; rfl)⟩ ?_
    refine ob_ck H fun h513 H => ?_
    refine ld_int (e := ([0, 0, 128, 2048, 65536]).getD v405.toNat 0) (own_get (ys := ei .i32 ([0, 0, 128, 2048, 65536])) (by first | rfl | simp [ei, eb, es, ec]) (ei_get (l := [0, 0, 128, 2048, 65536]) (by first | exact tn h513 | (have := tn h513; simp at this ⊢; omega) | (have := tn h513; simp; omega)))) ?_
    refine if_st H (fun h514 H => ?_) (fun h514 H => ?_)
    ·refine if_st H (fun h515 H => ?_) (fun h515 H => ?_)
     ·refine if_st H (fun h516 H => ?_) (fun h516 H => ?_)
      ·have hfin := fin_st H
       repeat refine mf1ZB1 ?_
       first | exact trivial | exact rfl
      ·have hfin := fin_st H
       repeat refine mf1ZB1 ?_
       first | exact trivial | exact rfl
     ·have hfin := fin_st H
      repeat refine mf1ZB1 ?_
      first | exact trivial | exact rfl
    ·have hfin := fin_st H
     repeat refine mf1ZB1 ?_
     first | exact trivial | exact rfl
noncomputable def g72 (a0 : List Int) : Option (Int × Int × Bool) :=
 if ((a0.length : Nat) : Int) = 0 then
  some (0, 0, true)
 else
  (
   ck (0 ≤ (0 : Int) ∧ 0 < ((a0.length : Nat) : Int)) <|
   (g88 (a0.getD (0 : Int).toNat 0)).bind fun v520 =>
   jn (α := _) (β := Bool) (fun k564 =>
     if 0 < v520 then
      (
       if v520 ≤ ((a0.length : Nat) : Int) then
        (
         ck (0 ≤ (0 : Int) ∧ (0 : Int) ≤ v520 ∧ v520 ≤ ((a0.length : Nat) : Int)) <|
         (g89 ((a0.drop (0 : Int).toNat).take (v520.toNat - (0 : Int).toNat))).bind fun v571 =>
         k564 v571
        )
       else
        k564 false
      )
     else
      k564 false
   ) (fun v563 =>
    if v563 = true then
     (
      ck (0 ≤ (0 : Int) ∧ (0 : Int) ≤ v520 ∧ v520 ≤ ((a0.length : Nat) : Int)) <|
      (g90 ((a0.drop (0 : Int).toNat).take (v520.toNat - (0 : Int).toNat))).bind fun v578 =>
      some (v578, v520, false)
     )
    else
     (
      if 0 < v520 then
       (
        if ((a0.length : Nat) : Int) < v520 then
         (
          (g89 a0).bind fun v591 =>
          if v591 = true then
           some (0, 0, true)
          else
           some (65533, 1, false)
         )
        else
         some (65533, 1, false)
       )
      else
       some (65533, 1, false)
     )
   )
  )
noncomputable def k72 : Eng.CS := { f := 72, calm := true, more := 0, ι := (List Int) × (Int × Int × Bool), ok := fun i => g72 i.1 = some i.2, rds := fun _ => [], args := fun i => [.sl 1 i.1.length (ei .u8 i.1)], res := fun i => .tup [.v (.int .i32 (i.2.1)), .v (.int .i64 (i.2.2.1)), bS i.2.2.2] }
set_option maxRecDepth 8000 in
set_option maxHeartbeats 4000000 in
theorem k72_ok : CalmOk Tryz.prog k72 := by
 refine R.calmspec Tryz.func72 nm72 rfl ?_
 rintro ⟨a0, r⟩ hok q _ args hargs
 match args, hargs with
 | [_], hargs =>
 obtain ⟨⟨A0, cp0, rfl, hc0, _, hR0⟩, _⟩ := hargs
 refine ⟨envC [k88, k89, k90] false [(72, 5)], 6, envC_ok (css_cons ⟨fun _ => k88_ok, fun h => (by cases h)⟩ (css_cons ⟨fun _ => k89_ok, fun h => (by cases h)⟩ (css_cons ⟨fun _ => k90_ok, fun h => (by cases h)⟩ (css_nil)))), rfl, (by intro x hx; simp only [List.mem_cons, List.not_mem_nil, or_false] at hx; rcases hx with rfl <;> rfl), ?_⟩
 have H : Gives (g72 a0) (fun a => a = r) := ⟨r, hok, rfl⟩
 unfold g72 at H
 clear hok
 refine if_st H (fun h518 H => ?_) (fun h518 H => ?_)
 ·have hfin := fin_st H
  repeat refine mf1ZB1 ?_
  first | exact trivial | exact rfl
 ·refine ob_ix hR0 (fun h => ei0 h) H fun h519 H => ?_
  refine ld_int (e := a0.getD (0 : Int).toNat 0) (rd_get hR0 (ei_get (l := a0) (tn h519))) ?_
  obtain ⟨v520, hv521, H⟩ := call_st H
  refine ⟨(a0.getD (0 : Int).toNat 0, v520), ⟨hv521⟩, ⟨trivial⟩, ?_⟩
  refine And.intro ⟨rfl⟩ ?_
  refine R.cut_fam H 26 [0, 5] [] (fun v563 => [(26, bS v563)]) (fun v563 => []) [] 0 (fun H => ?_)
  refine And.intro ?_ ?_
  ·refine if_st H (fun h565 H => ?_) (fun h565 H => ?_)
   ·refine if_st H (fun h566 H => ?_) (fun h566 H => ?_)
    ·refine ob_sl hc0 H fun h567 H => ?_
     have hs568 := sl_ei hR0 rfl hc0 h567
     intro n569 hn570
     subst hn570
     obtain ⟨v571, hv572, H⟩ := call_st H
     refine ⟨(((a0.drop (0 : Int).toNat).take (v520.toNat - (0 : Int).toNat)), v571), ⟨hv572⟩, ⟨trivial⟩, ?_⟩
     refine And.intro ⟨(hs568.2.1).symm, hs568.2.2, ei_len.trans ((show _ = _ from hs568.2.1).trans (Nat.mul_one _).symm), hs568.1⟩ ?_
     refine ⟨v571, ⟨H⟩, ⟨rfl⟩, ?_⟩
     repeat refine mo1ZB1 ?_
     first | exact trivial | exact rfl
    ·refine ⟨false, ⟨H⟩, ⟨rfl⟩, ?_⟩
     repeat refine mo1ZB1 ?_
     first | exact trivial | exact rfl
   ·refine ⟨false, ⟨H⟩, ⟨rfl⟩, ?_⟩
    repeat refine mo1ZB1 ?_
    first | exact trivial | exact rfl
  ·intro v563 H
   refine if_st H (fun h573 H => ?_) (fun h573 H => ?_)
   ·refine ob_sl hc0 H fun h574 H => ?_
    have hs575 := sl_ei hR0 rfl hc0 h574
    intro n576 hn577
    subst hn577
    obtain ⟨v578, hv579, H⟩ := call_st H
    refine ⟨(((a0.drop (0 : Int).toNat).take (v520.toNat - (0 : Int).toNat)), v578), ⟨hv579⟩, ⟨trivial⟩, ?_⟩
    refine And.intro ⟨(hs575.2.1).symm, hs575.2.2, ei_len.trans ((show _ = _ from hs575.2.1).trans (Nat.mul_one _).symm), hs575.1⟩ ?_
    have hfin := fin_st H
    repeat refine mf1ZB1 ?_
    first | exact trivial | exact rfl
   ·refine if_st H (fun h589 H => ?_) (fun h589 H => ?_)
    ·refine if_st H (fun h590 H => ?_) (fun h590 H => ?_)
     ·obtain ⟨v591, hv592, H⟩ := call_st H
      refine ⟨(a0, v591), ⟨hv592⟩, ⟨trivial⟩, ?_⟩
      refine And.intro ⟨rfl, hc0, ei_len.trans ((show _ = _ from rfl).trans (Nat.mul_one _).symm), hR0⟩ ?_
      refine if_st H (fun h593 H => ?_) (fun h593 H => ?_)
      ·have hfin := fin_st H
       repeat refine mf1ZB1 ?_
       first | exact trivial | exact rfl
      ·have hfin := fin_st H
       repeat refine mf1ZB1 ?_
       first | exact trivial | exact rfl
     ·have hfin := fin_st H
      repeat refine mf1ZB1 ?_
      first | exact trivial | exact rfl
    ·have hfin := fin_st H
     repeat refine mf1ZB1 ?_
     first | exact trivial | exact rfl
end Go.Proofs.YtenjkphlbdhaiaaGreat
end
section
namespace Go.Proofs.YtenjkphlbdhaiaaGreat
open Go Go.Eng
theorem mo1ZB2 {p q : Prop} (k : q) (h : p := by first | exact rfl | exact Iff.rfl | exact ⟨rfl, rfl⟩ | exact decide_eq_true_iff | (constructor <;> first | exact rfl | (simp only [ei, eb, es, ec, gmin, gmax, List.map_append, List.flatMap_append, List.nil_append, List.append_nil, List.append_assoc]; done) | omega | (simp only [List.nil_append, List.length_append, List.length_cons, List.length_nil]; omega) | (simp [ei, eb, es, ec, gmin, gmax]; done)) | exact rfl | (simp only [ei, eb, es, ec, gmin, gmax, List.map_append, List.flatMap_append, List.nil_append, List.append_nil, List.append_assoc]; done) | omega | (simp only [List.nil_append, List.length_append, List.length_cons, List.length_nil]; omega) | (simp [ei, eb, es, ec, gmin, gmax]; done) | simp [ei, eb, es, ec, gmin, gmax]) : Ob p ∧ q := ⟨⟨h⟩, k⟩
theorem mf1ZB2 {p q : Prop} (k : q) (h : p := by first | (rw [← hfin] <;> first | exact rfl | exact Iff.rfl | exact ⟨rfl, rfl⟩ | exact decide_eq_true_iff | (constructor <;> first | exact rfl | (simp only [ei, eb, es, ec, gmin, gmax, List.map_append, List.flatMap_append, List.nil_append, List.append_nil, List.append_assoc]; done) | omega | (simp only [List.nil_append, List.length_append, List.length_cons, List.length_nil]; omega) | (simp [ei, eb, es, ec, gmin, gmax]; done)) | exact rfl | (simp only [ei, eb, es, ec, gmin, gmax, List.map_append, List.flatMap_append, List.nil_append, List.append_nil, List.append_assoc]; done) | omega | (simp only [List.nil_append, List.length_append, List.length_cons, List.length_nil]; omega) | (simp [ei, eb, es, ec, gmin, gmax]; done) | simp [ei, eb, es, ec, gmin, gmax]) | first | exact rfl | exact Iff.rfl | exact ⟨rfl, rfl⟩ | exact decide_eq_true_iff | (constructor <;> first | exact rfl | (simp only [ei, eb, es, ec, gmin, gmax, List.map_append, List.flatMap_append, List.nil_append, List.append_nil, List.append_assoc]; done) | omega | (simp only [List.nil_append, List.length_append, List.length_cons, List.length_nil]; omega) | (simp [ei, eb, es, ec, gmin, gmax]; done)) | exact rfl | (simp only [ei, eb, es, ec, gmin, gmax, List.map_append, List.flatMap_append, List.nil_append, List.append_nil, List.append_assoc]; done) | omega | (simp only [List.nil_append, List.length_append, List.length_cons, List.length_nil]; omega) | (simp [ei, eb, es, ec, gmin, gmax]; done) | simp [ei, eb, es, ec, gmin, gmax]) : Ob p ∧ q := ⟨⟨h⟩, k⟩
noncomputable def g61 (a0 : List Int) : Option (List Int × List Int) :=
 jn (α := _) (β := List Int × List Int) (fun k100 =>
   (loopO (σ := List Int × List Int × Int) (ρ := List Int × List Int) (fun s103 =>
     if s103.2.2 < ((a0.length : Nat) : Int) then
      (
       ck (0 ≤ s103.2.2 ∧ s103.2.2 ≤ ((a0.length : Nat) : Int) ∧ ((a0.length : Nat) : Int) ≤ ((a0.length : Nat) : Int)) <|
       (g72 ((a0.drop s103.2.2.toNat).take (((a0.length : Nat) : Int).toNat - s103.2.2.toNat))).bind fun v171 =>
       if v171.2.2 = true then
        (
         ck ((s103.1.length + 1) * 4 ≤ 140737488355328) <|
         ck ((s103.2.1.length + 1) * 8 ≤ 140737488355328) <|
         ck (inR .i64 (s103.2.2 + 1)) <|
         some (.go ((s103.1 ++ [65533]), (s103.2.1 ++ [s103.2.2]), s103.2.2 + 1))
        )
       else
        (
         ck ((s103.1.length + 1) * 4 ≤ 140737488355328) <|
         ck ((s103.2.1.length + 1) * 8 ≤ 140737488355328) <|
         ck (inR .i64 (s103.2.2 + v171.2.1)) <|
         some (.go ((s103.1 ++ [v171.1]), (s103.2.1 ++ [s103.2.2]), s103.2.2 + v171.2.1))
        )
      )
     else
      some (.out (s103.1, s103.2.1))
    ) ([], [], 0)).bind fun o165 =>
    k100 (o165.1, o165.2)
 ) (fun v99 =>
  some (v99.1, v99.2)
 )
noncomputable def k61 : Eng.CS := { f := 61, calm := false, more := 2, ι := (List Int) × (List Int × List Int), ok := fun i => g61 i.1 = some i.2, rds := fun _ => [], args := fun i => [.sl 1 i.1.length (ei .u8 i.1)], res := fun i => .tup [.own 0, .own 1], L' := fun i => [(0, .arr 21 1 i.2.1.length (ei .i32 i.2.1)), (1, .arr 3 1 i.2.2.length (ei .i64 i.2.2))], rn := [(0, 0, 21, 1), (1, 0, 3, 1)] }
set_option maxRecDepth 8000 in
set_option maxHeartbeats 4000000 in
theorem k61_ok : CSOk Tryz.prog k61 := by
 refine R.cspec Tryz.func61 nm61 rfl ?_
 rintro ⟨a0, r⟩ hok q _ args hargs
 match args, hargs with
 | [_], hargs =>
 obtain ⟨⟨A0, cp0, rfl, hc0, _, hR0⟩, _⟩ := hargs
 refine ⟨envC [k72] false [(61, 10)], 6, envC_ok (css_cons ⟨fun _ => k72_ok, fun h => (by cases h)⟩ (css_nil)), ?_⟩
 have H : Gives (g61 a0) (fun a => a = r) := ⟨r, hok, rfl⟩
 unfold g61 at H
 clear hok
 refine R.cut_fam H 17 [] [] (fun v99 => [(4, .own 17), (5, .own 18)]) (fun v99 => [(17, .arr 21 1 (v99.1.length) (ei .i32 (v99.1))), (18, .arr 3 1 (v99.2.length) (ei .i64 (v99.2)))]) [] 2 (fun H => ?_)
 refine And.intro ?_ ?_
 ·refine R.loop_fam (bind_st H) [0] [(4, 0, 21, 1), (5, 0, 3, 1)] (fun _ s103 => [(4, .own 7), (5, .own 8), (6, .v (.int .i64 (s103.2.2)))]) (fun _ s103 => [(7, .arr 21 1 (s103.1.length) (ei .i32 (s103.1))), (8, .arr 3 1 (s103.2.1.length) (ei .i64 (s103.2.1)))]) 2 (fun n196 H => ?_)
  refine ⟨(n196, _), ⟨H⟩, ⟨trivial⟩, ?_⟩
  repeat refine mo1ZB2 ?_
  rintro ⟨m0, s103⟩ H _
  obtain ⟨m104, hm0, H⟩ := IG_succ H
  dsimp only at hm0
  subst hm0
  try dsimp only at H
  refine if_st H (fun h166 H => ?_) (fun h166 H => ?_)
  ·refine ob_sl hc0 H fun h167 H => ?_
   have hs168 := sl_ei hR0 rfl hc0 h167
   intro n169 hn170
   obtain rfl : n169 = ((a0.drop s103.2.2.toNat).take (((a0.length : Nat) : Int).toNat - s103.2.2.toNat)).length := hn170.trans hs168.2.1.symm
   obtain ⟨v171, hv172, H⟩ := call_st H
   refine ⟨(((a0.drop s103.2.2.toNat).take (((a0.length : Nat) : Int).toNat - s103.2.2.toNat)), v171), ⟨hv172⟩, ⟨trivial⟩, ?_⟩
   refine And.intro ⟨rfl, (Nat.le_trans (Nat.le_of_eq hs168.2.1) hs168.2.2), ei_len.trans ((show _ = _ from rfl).trans (Nat.mul_one _).symm), hs168.1⟩ ?_
   refine if_st H (fun h173 H => ?_) (fun h173 H => ?_)
   ·refine ob_app (by decide) (by first | exact ei_one | ((repeat (refine List.forall_mem_cons.2 ⟨rfl, ?_⟩)); intro y hy; cases hy; done) | (intro y hy; simp [ei, eb, es, ec] at hy; (first | (rcases hy with rfl | hy) | subst hy | skip); all_goals first | rfl | simp_all [Value.oneCell'])) H fun h174 H => ?_
    intro n175 zs177 hn176 hz178
    obtain rfl : n175 = (s103.1 ++ [65533]).length := hn176.trans (by first | exact List.length_append.symm | (simp; done) | (simp; omega))
    obtain rfl : zs177 = ei .i32 (s103.1 ++ [65533]) := by first | exact hz178.trans (ei_app (xs := s103.1) (ys := ([65533]))).symm | (rw [hz178, ei_vw]; first | exact ei_app.symm | exact (ei_app (xs := s103.1)).symm) | (rw [hz178]; simp [ei, eb, es, ec])
    refine ob_app (by decide) (by first | exact ei_one | ((repeat (refine List.forall_mem_cons.2 ⟨rfl, ?_⟩)); intro y hy; cases hy; done) | (intro y hy; simp [ei, eb, es, ec] at hy; (first | (rcases hy with rfl | hy) | subst hy | skip); all_goals first | rfl | simp_all [Value.oneCell'])) H fun h179 H => ?_
    intro n180 zs182 hn181 hz183
    obtain rfl : n180 = (s103.2.1 ++ [s103.2.2]).length := hn181.trans (by first | exact List.length_append.symm | (simp; done) | (simp; omega))
    obtain rfl : zs182 = ei .i64 (s103.2.1 ++ [s103.2.2]) := by first | exact hz183.trans (ei_app (xs := s103.2.1) (ys := ([s103.2.2]))).symm | (rw [hz183, ei_vw]; first | exact ei_app.symm | exact (ei_app (xs := s103.2.1)).symm) | (rw [hz183]; simp [ei, eb, es, ec])
    refine ob_ck H fun h184 H => ?_
    replace H := some_st H
    refine ⟨(m104, ((s103.1 ++ [65533]), (s103.2.1 ++ [s103.2.2]), s103.2.2 + 1)), ⟨H, Nat.lt_succ_self _⟩, ⟨trivial⟩, ⟨rfl⟩, ?_⟩
    repeat refine mo1ZB2 ?_
    first | exact trivial | exact rfl
   ·refine ob_app (by decide) (by first | exact ei_one | ((repeat (refine List.forall_mem_cons.2 ⟨rfl, ?_⟩)); intro y hy; cases hy; done) | (intro y hy; simp [ei, eb, es, ec] at hy; (first | (rcases hy with rfl | hy) | subst hy | skip); all_goals first | rfl | simp_all [Value.oneCell'])) H fun h185 H => ?_
    intro n186 zs188 hn187 hz189
    obtain rfl : n186 = (s103.1 ++ [v171.1]).length := hn187.trans (by first | exact List.length_append.symm | (simp; done) | (simp; omega))
    obtain rfl : zs188 = ei .i32 (s103.1 ++ [v171.1]) := by first | exact hz189.trans (ei_app (xs := s103.1) (ys := ([v171.1]))).symm | (rw [hz189, ei_vw]; first | exact ei_app.symm | exact (ei_app (xs := s103.1)).symm) | (rw [hz189]; simp [ei, eb, es, ec])
    refine ob_app (by decide) (by first | exact ei_one | ((repeat (refine List.forall_mem_cons.2 ⟨rfl, ?_⟩)); intro y hy; cases hy; done) | (intro y hy; simp [ei, eb, es, ec] at hy; (first | (rcases hy with rfl | hy) | subst hy | skip); all_goals first | rfl | simp_all [Value.oneCell'])) H fun h190 H => ?_
    intro n191 zs193 hn192 hz194
    obtain rfl : n191 = (s103.2.1 ++ [s103.2.2]).length := hn192.trans (by first | exact List.length_append.symm | (simp; done) | (simp; omega))
    obtain rfl : zs193 = ei .i64 (s103.2.1 ++ [s103.2.2]) := by first | exact hz194.trans (ei_app (xs := s103.2.1) (ys := ([s103.2.2]))).symm | (rw [hz194, ei_vw]; first | exact ei_app.symm | exact (ei_app (xs := s103.2.1)).symm) | (rw [hz194]; simp [ei, eb, es, ec])
    refine ob_ck H fun h195 H => ?_
    replace H := some_st H
    refine ⟨(m104, ((s103.1 ++ [v171.1]), (s103.2.1 ++ [s103.2.2]), s103.2.2 + v171.2.1)), ⟨H, Nat.lt_succ_self _⟩, ⟨trivial⟩, ⟨rfl⟩, ?_⟩
    repeat refine mo1ZB2 ?_
    first | exact trivial | exact rfl
  ·replace H := some_st H
   dsimp only [stp, sm] at H
   refine ⟨(s103.1, s103.2.1), ⟨H⟩, ⟨rfl⟩, ?_⟩
   repeat refine mo1ZB2 ?_
   first | exact trivial | exact rfl
 ·intro v99 H
  have hfin := fin_st H
  repeat refine mf1ZB2 ?_
  first | exact trivial | exact rfl
def c133 (p : (Int × Int)) : List Value := [.int .i32 p.1, .int .i32 p.2]
theorem c133_len : ∀ a, (c133 a).length = 2 := fun _ => rfl
theorem mo2ZB2 {p q : Prop} (k : q) (h : p := by first | exact rfl | exact Iff.rfl | exact ⟨rfl, rfl⟩ | exact decide_eq_true_iff | (constructor <;> first | exact rfl | (simp only [ei, eb, es, ec, c133, gmin, gmax, List.map_append, List.flatMap_append, List.nil_append, List.append_nil, List.append_assoc]; done) | omega | (simp only [List.nil_append, List.length_append, List.length_cons, List.length_nil]; omega) | (simp [ei, eb, es, ec, c133, gmin, gmax]; done)) | exact rfl | (simp only [ei, eb, es, ec, c133, gmin, gmax, List.map_append, List.flatMap_append, List.nil_append, List.append_nil, List.append_assoc]; done) | omega | (simp only [List.nil_append, List.length_append, List.length_cons, List.length_nil]; omega) | (simp [ei, eb, es, ec, c133, gmin, gmax]; done) | simp [ei, eb, es, ec, c133, gmin, gmax]) : Ob p ∧ q := ⟨⟨h⟩, k⟩
theorem mf2ZB2 {p q : Prop} (k : q) (h : p := by first | (rw [← hfin] <;> first | exact rfl | exact Iff.rfl | exact ⟨rfl, rfl⟩ | exact decide_eq_true_iff | (constructor <;> first | exact rfl | (simp only [ei, eb, es, ec, c133, gmin, gmax, List.map_append, List.flatMap_append, List.nil_append, List.append_nil, List.append_assoc]; done) | omega | (simp only [List.nil_append, List.length_append, List.length_cons, List.length_nil]; omega) | (simp [ei, eb, es, ec, c133, gmin, gmax]; done)) | exact rfl | (simp only [ei, eb, es, ec, c133, gmin, gmax, List.map_append, List.flatMap_append, List.nil_append, List.append_nil, List.append_assoc]; done) | omega | (simp only [List.nil_append, List.length_append, List.length_cons, List.length_nil]; omega) | (simp [ei, eb, es, ec, c133, gmin, gmax]; done) | simp [ei, eb, es, ec, c133, gmin, gmax]) | first | exact rfl | exact Iff.rfl | exact ⟨rfl, rfl⟩ | exact decide_eq_true_iff | (constructor <;> first | exact rfl | (simp only [ei, eb, es, ec, c133, gmin, gmax, List.map_append, List.flatMap_append, List.nil_append, List.append_nil, List.append_assoc]; done) | omega | (simp only [List.nil_append, List.length_append, List.length_cons, List.length_nil]; omega) | (simp [ei, eb, es, ec, c133, gmin, gmax]; done)) | exact rfl | (simp only [ei, eb, es, ec, c133, gmin, gmax, List.map_append, List.flatMap_append, List.nil_append, List.append_nil, List.append_assoc]; done) | omega | (simp only [List.nil_append, List.length_append, List.length_cons, List.length_nil]; omega) | (simp [ei, eb, es, ec, c133, gmin, gmax]; done) | simp [ei, eb, es, ec, c133, gmin, gmax]) : Ob p ∧ q := ⟨⟨h⟩, k⟩
noncomputable def g92  : Option (List (Int × Int)) :=
 some ([(768, 879), (1155, 1161), (1425, 1469), (1471, 1471), (1473, 1474), (1476, 1477), (1479, 1479), (1552, 1562), (1611, 1631), (1648, 1648), (1750, 1756), (1759, 1764), (1767, 1768), (1770, 1773), (3633, 3633), (3636, 3642), (3655, 3662), (6832, 6911), (7616, 7679), (8203, 8207), (8288, 8292), (8400, 8432), (12330, 12333), (12441, 12442), (65024, 65039), (65056, 65071), (65279, 65279), (917760, 917999)])
noncomputable def k92 : Eng.CS := { f := 92, calm := false, more := 1, ι := List (Int × Int), ok := fun i => g92  = some i, rds := fun _ => [], args := fun i => [], res := fun i => .own 0, L' := fun i => [(0, .arr 133 2 i.length (ec c133 i))], rn := [(0, 0, 133, 2)] }
set_option maxRecDepth 60000 in
set_option maxHeartbeats 4000000 in
theorem k92_ok : CSOk Tryz.prog k92 := by
 refine R.cspec Tryz.func92 nm92 rfl ?_
 rintro r hok q _ args hargs
 match args, hargs with
 | [], hargs =>
 refine ⟨envC [] false [], 6, envC_ok (css_nil), ?_⟩
 have H : Gives (g92 ) (fun a => a = r) := ⟨r, hok, rfl⟩
 unfold g92 at H
 clear hok
 have hfin := fin_st H
 repeat refine mf2ZB2 ?_
 first | exact trivial | exact rfl
noncomputable def g93  : Option (List (Int × Int)) :=
 some ([(4352, 4447), (8986, 8987), (9001, 9002), (9193, 9196), (9200, 9200), (9203, 9203), (9725, 9726), (9748, 9749), (9800, 9811), (9855, 9855), (9875, 9875), (9889, 9889), (9898, 9899), (9917, 9918), (9924, 9925), (9934, 9934), (9940, 9940), (9962, 9962), (9970, 9971), (9973, 9973), (9978, 9978), (9981, 9981), (9989, 9989), (9994, 9995), (10024, 10024), (10060, 10060), (10062, 10062), (10067, 10069), (10071, 10071), (10133, 10135), (10160, 10160), (10175, 10175), (11035, 11036), (11088, 11088), (11093, 11093), (11904, 12350), (12353, 19903), (19968, 42191), (43360, 43391), (44032, 55203), (63744, 64255), (65040, 65049), (65072, 65135), (65281, 65376), (65504, 65510), (127744, 128591), (128640, 128767), (129280, 129535), (129648, 129791), (131072, 196605), (196608, 262141)])
noncomputable def k93 : Eng.CS := { f := 93, calm := false, more := 1, ι := List (Int × Int), ok := fun i => g93  = some i, rds := fun _ => [], args := fun i => [], res := fun i => .own 0, L' := fun i => [(0, .arr 133 2 i.length (ec c133 i))], rn := [(0, 0, 133, 2)] }
set_option maxRecDepth 60000 in
set_option maxHeartbeats 4000000 in
theorem k93_ok : CSOk Tryz.prog k93 := by
 refine R.cspec Tryz.func93 nm93 rfl ?_
 rintro r hok q _ args hargs
 match args, hargs with
 | [], hargs =>
 refine ⟨envC [] false [], 6, envC_ok (css_nil), ?_⟩
 have H : Gives (g93 ) (fun a => a = r) := ⟨r, hok, rfl⟩
 unfold g93 at H
 clear hok
 have hfin := fin_st H
 repeat refine mf2ZB2 ?_
 first | exact trivial | exact rfl
noncomputable def g91 (a0 : List (Int × Int)) (a1 : Int) : Option (Bool) :=
 jn (α := _) (β := Unit) (fun k235 =>
   (loopO (σ := Int) (ρ := (Unit) ⊕ (Unit)) (fun s238 =>
     if s238 < ((a0.length : Nat) : Int) then
      (
       ck (0 ≤ s238 ∧ s238 < ((a0.length : Nat) : Int)) <|
       if ((a0.getD s238.toNat default).1) ≤ a1 then
        (
         ck (0 ≤ s238 ∧ s238 < ((a0.length : Nat) : Int)) <|
         if a1 ≤ ((a0.getD s238.toNat default).2) then
          some (.out (.inl (())))
         else
          (
           ck (inR .i64 (s238 + 1)) <|
           some (.go (s238 + 1))
          )
        )
       else
        (
         ck (inR .i64 (s238 + 1)) <|
         some (.go (s238 + 1))
        )
      )
     else
      some (.out (.inr (())))
    ) 0).bind fun o254 =>
   sm o254 (fun o262 =>
     some true
    ) (fun o263 =>
     k235 ()
    )
 ) (fun v234 =>
  some false
 )
noncomputable def k91 : Eng.CS := { f := 91, calm := true, more := 0, ι := (List (Int × Int)) × Int × Bool, ok := fun i => g91 i.1 i.2.1 = some i.2.2, rds := fun _ => [], args := fun i => [.sl 2 i.1.length (ec c133 i.1), .w (.v (.int .i32 (i.2.1)))], res := fun i => bS i.2.2 }
set_option maxRecDepth 8000 in
set_option maxHeartbeats 4000000 in
theorem k91_ok : CalmOk Tryz.prog k91 := by
 refine R.calmspec Tryz.func91 nm91 rfl ?_
 rintro ⟨a0, a1, r⟩ hok q _ args hargs
 match args, hargs with
 | [_, _], hargs =>
 obtain ⟨⟨A0, cp0, rfl, hc0, _, hR0⟩, rfl, _⟩ := hargs
 refine ⟨envC [] false [(91, 6)], 6, envC_ok (css_nil), rfl, (by intro x hx; simp only [List.mem_cons, List.not_mem_nil, or_false] at hx; rcases hx with rfl | rfl <;> rfl), ?_⟩
 have H : Gives (g91 a0 a1) (fun a => a = r) := ⟨r, hok, rfl⟩
 unfold g91 at H
 clear hok
 refine R.cut_fam H 8 [] [] (fun v234 => []) (fun v234 => []) [] 0 (fun H => ?_)
 refine And.intro ?_ ?_
 ·refine R.loop_fam (bind_st H) [0, 1] [] (fun _ s238 => [(5, .v (.int .i64 (s238)))]) (fun _ s238 => []) 0 (fun n264 H => ?_)
  refine ⟨(n264, _), ⟨H⟩, ⟨trivial⟩, ?_⟩
  repeat refine mo2ZB2 ?_
  rintro ⟨m0, s238⟩ H _
  obtain ⟨m239, hm0, H⟩ := IG_succ H
  dsimp only at hm0
  subst hm0
  try dsimp only at H
  refine if_st H (fun h255 H => ?_) (fun h255 H => ?_)
  ·refine ob_ix hR0 (fun h => ec0 c133_len (by decide) h) H fun h256 H => ?_
   refine ld_int (e := (a0.getD s238.toNat default).1) (rd_get hR0 ((ec_get (i := s238.toNat) (o := 0) c133_len (tn h256) (by decide)).trans rfl)) ?_
   refine if_st H (fun h257 H => ?_) (fun h257 H => ?_)
   ·refine ob_ix hR0 (fun h => ec0 c133_len (by decide) h) H fun h258 H => ?_
    refine ld_int (e := (a0.getD s238.toNat default).2) (rd_get hR0 ((ec_get (i := s238.toNat) (o := 1) c133_len (tn h258) (by decide)).trans rfl)) ?_
    refine if_st H (fun h259 H => ?_) (fun h259 H => ?_)
    ·replace H := some_st H
     dsimp only [stp, sm] at H
     have hfin := fin_st H
     repeat refine mf2ZB2 ?_
     first | exact trivial | exact rfl
    ·refine ob_ck H fun h260 H => ?_
     replace H := some_st H
     refine ⟨(m239, s238 + 1), ⟨H, Nat.lt_succ_self _⟩, ⟨trivial⟩, ⟨rfl⟩, ?_⟩
     repeat refine mo2ZB2 ?_
     first | exact trivial | exact rfl
   ·refine ob_ck H fun h261 H => ?_
    replace H := some_st H
    refine ⟨(m239, s238 + 1), ⟨H, Nat.lt_succ_self _⟩, ⟨trivial⟩, ⟨rfl⟩, ?_⟩
    repeat refine mo2ZB2 ?_
    first | exact trivial | exact rfl
  ·replace H := some_st H
   dsimp only [stp, sm] at H
   refine ⟨(), ⟨H⟩, ⟨rfl⟩, ?_⟩
   repeat refine mo2ZB2 ?_
   first | exact trivial | exact rfl
 ·intro v234 H
  have hfin := fin_st H
  repeat refine mf2ZB2 ?_
  first | exact trivial | exact rfl
noncomputable def g73 (a0 : Int) : Option (Bool) :=
 if 0 ≤ a0 then
  (
   if a0 ≤ 1114111 then
    (
     if 55296 ≤ a0 then
      some (decide (¬ (a0 ≤ 57343)))
     else
      some true
    )
   else
    some false
  )
 else
  some false
noncomputable def k73 : Eng.CS := { f := 73, calm := true, more := 0, ι := Int × Bool, ok := fun i => g73 i.1 = some i.2, rds := fun _ => [], args := fun i => [.w (.v (.int .i32 (i.1)))], res := fun i => bS i.2 }
set_option maxRecDepth 8000 in
set_option maxHeartbeats 4000000 in
theorem k73_ok : CalmOk Tryz.prog k73 := by
 refine R.calmspec Tryz.func73 nm73 rfl ?_
 rintro ⟨a0, r⟩ hok q _ args hargs
 match args, hargs with
 | [_], hargs =>
 obtain ⟨rfl, _⟩ := hargs
 refine ⟨envC [] false [], 6, envC_ok (css_nil), rfl, (by intro x hx; simp only [List.mem_cons, List.not_mem_nil, or_false] at hx; rcases hx with rfl <;> rfl), ?_⟩
 have H : Gives (g73 a0) (fun a => a = r) := ⟨r, hok, rfl⟩
 unfold g73 at H
 clear hok
 refine if_st H (fun h265 H => ?_) (fun h265 H => ?_)
 ·refine if_st H (fun h266 H => ?_) (fun h266 H => ?_)
  ·refine if_st H (fun h267 H => ?_) (fun h267 H => ?_)
   ·have hfin := fin_st H
    repeat refine mf2ZB2 ?_
    first | exact trivial | exact rfl
   ·have hfin := fin_st H
    repeat refine mf2ZB2 ?_
    first | exact trivial | exact rfl
  ·have hfin := fin_st H
   repeat refine mf2ZB2 ?_
   first | exact trivial | exact rfl
 ·have hfin := fin_st H
  repeat refine mf2ZB2 ?_
  first | exact trivial | exact rfl
noncomputable def g74 (a0 : Int) : Option (Bool) :=
 if 0 ≤ a0 then
  (
   if a0 ≤ 31 then
    some true
   else
    (
     if 127 ≤ a0 then
      some (decide (a0 ≤ 159))
     else
      some false
    )
  )
 else
  (
   if 127 ≤ a0 then
    some (decide (a0 ≤ 159))
   else
    some false
  )
noncomputable def k74 : Eng.CS := { f := 74, calm := true, more := 0, ι := Int × Bool, ok := fun i => g74 i.1 = some i.2, rds := fun _ => [], args := fun i => [.w (.v (.int .i32 (i.1)))], res := fun i => bS i.2 }
set_option maxRecDepth 8000 in
set_option maxHeartbeats 4000000 in
theorem k74_ok : CalmOk Tryz.prog k74 := by
 refine R.calmspec Tryz.func74 nm74 rfl ?_
 rintro ⟨a0, r⟩ hok q _ args hargs
 match args, hargs with
 | [_], hargs =>
 obtain ⟨rfl, _⟩ := hargs
 refine ⟨envC [] false [], 6, envC_ok (css_nil), rfl, (by intro x hx; simp only [List.mem_cons, List.not_mem_nil, or_false] at hx; rcases hx with rfl <;> rfl), ?_⟩
 have H : Gives (g74 a0) (fun a => a = r) := ⟨r, hok, rfl⟩
 unfold g74 at H
 clear hok
 refine if_st H (fun h268 H => ?_) (fun h268 H => ?_)
 ·refine if_st H (fun h269 H => ?_) (fun h269 H => ?_)
  ·have hfin := fin_st H
   repeat refine mf2ZB2 ?_
   first | exact trivial | exact rfl
  ·refine if_st H (fun h270 H => ?_) (fun h270 H => ?_)
   ·have hfin := fin_st H
    repeat refine mf2ZB2 ?_
    first | exact trivial | exact rfl
   ·have hfin := fin_st H
    repeat refine mf2ZB2 ?_
    first | exact trivial | exact rfl
 ·refine if_st H (fun h271 H => ?_) (fun h271 H => ?_)
  ·have hfin := fin_st H
   repeat refine mf2ZB2 ?_
   first | exact trivial | exact rfl
  ·have hfin := fin_st H
   repeat refine mf2ZB2 ?_
   first | exact trivial | exact rfl
noncomputable def g75 (a0 : Int) : Option (Bool) :=
 (g92).bind fun v272 =>
 (g91 v272 a0).bind fun v274 =>
 some v274
noncomputable def k75 : Eng.CS := { f := 75, calm := true, more := 0, ι := Int × Bool, ok := fun i => g75 i.1 = some i.2, rds := fun _ => [], args := fun i => [.w (.v (.int .i32 (i.1)))], res := fun i => bS i.2 }
set_option maxRecDepth 8000 in
set_option maxHeartbeats 4000000 in
theorem k75_ok : CalmOk Tryz.prog k75 := by
 refine R.calmspec Tryz.func75 nm75 rfl ?_
 rintro ⟨a0, r⟩ hok q _ args hargs
 match args, hargs with
 | [_], hargs =>
 obtain ⟨rfl, _⟩ := hargs
 refine ⟨envC [k91, k92] false [], 6, envC_ok (css_cons ⟨fun _ => k91_ok, fun h => (by cases h)⟩ (css_cons ⟨fun h => (by cases h), fun _ => k92_ok⟩ (css_nil))), rfl, (by intro x hx; simp only [List.mem_cons, List.not_mem_nil, or_false] at hx; rcases hx with rfl <;> rfl), ?_⟩
 have H : Gives (g75 a0) (fun a => a = r) := ⟨r, hok, rfl⟩
 unfold g75 at H
 clear hok
 obtain ⟨v272, hv273, H⟩ := call_st H
 refine ⟨v272, ⟨hv273⟩, ⟨trivial⟩, ?_⟩
 obtain ⟨v274, hv275, H⟩ := call_st H
 refine ⟨(v272, a0, v274), ⟨hv275⟩, ⟨trivial⟩, ?_⟩
 refine And.intro ⟨by first | rfl | (simp; done), by first | rfl | (simp [ei, eb, es, ec, c133]; done) | (simp only [ei, eb, es, ec, c133, List.map_append, List.nil_append, List.append_assoc]; rfl)⟩ ?_
 refine And.intro ⟨rfl⟩ ?_
 have hfin := fin_st H
 repeat refine mf2ZB2 ?_
 first | exact trivial | exact rfl
noncomputable def g76 (a0 : Int) : Option (Bool) :=
 (g75 a0).bind fun v276 =>
 if ¬ (v276 = true) then
  (
   (g93).bind fun v279 =>
   (g91 v279 a0).bind fun v281 =>
   some v281
  )
 else
  some false
noncomputable def k76 : Eng.CS := { f := 76, calm := true, more := 0, ι := Int × Bool, ok := fun i => g76 i.1 = some i.2, rds := fun _ => [], args := fun i => [.w (.v (.int .i32 (i.1)))], res := fun i => bS i.2 }
set_option maxRecDepth 8000 in
set_option maxHeartbeats 4000000 in
theorem k76_ok : CalmOk Tryz.prog k76 := by
 refine R.calmspec Tryz.func76 nm76 rfl ?_
 rintro ⟨a0, r⟩ hok q _ args hargs
 match args, hargs with
 | [_], hargs =>
 obtain ⟨rfl, _⟩ := hargs
 refine ⟨envC [k75, k91, k93] false [], 6, envC_ok (css_cons ⟨fun _ => k75_ok, fun h => (by cases h)⟩ (css_cons ⟨fun _ => k91_ok, fun h => (by cases h)⟩ (css_cons ⟨fun h => (by cases h), fun _ => k93_ok⟩ (css_nil)))), rfl, (by intro x hx; simp only [List.mem_cons, List.not_mem_nil, or_false] at hx; rcases hx with rfl <;> rfl), ?_⟩
 have H : Gives (g76 a0) (fun a => a = r) := ⟨r, hok, rfl⟩
 unfold g76 at H
 clear hok
 obtain ⟨v276, hv277, H⟩ := call_st H
 refine ⟨(a0, v276), ⟨hv277⟩, ⟨trivial⟩, ?_⟩
 refine And.intro ⟨rfl⟩ ?_
 refine if_st H (fun h278 H => ?_) (fun h278 H => ?_)
 ·obtain ⟨v279, hv280, H⟩ := call_st H
  refine ⟨v279, ⟨hv280⟩, ⟨trivial⟩, ?_⟩
  obtain ⟨v281, hv282, H⟩ := call_st H
  refine ⟨(v279, a0, v281), ⟨hv282⟩, ⟨trivial⟩, ?_⟩
  refine And.intro ⟨by first | rfl | (simp; done), by first | rfl | (simp [ei, eb, es, ec, c133]; done) | (simp only [ei, eb, es, ec, c133, List.map_append, List.nil_append, List.append_assoc]; rfl)⟩ ?_
  refine And.intro ⟨rfl⟩ ?_
  have hfin := fin_st H
  repeat refine mf2ZB2 ?_
  first | exact trivial | exact rfl
 ·have hfin := fin_st H
  repeat refine mf2ZB2 ?_
  first | exact trivial | exact rfl
noncomputable def g62 (a0 : Int) : Option (Int) :=
 (g73 a0).bind fun v300 =>
 if ¬ (v300 = true) then
  some 0
 else
  (
   (g74 a0).bind fun v303 =>
   if v303 = true then
    some 0
   else
    (
     (g75 a0).bind fun v306 =>
     if v306 = true then
      some 0
     else
      (
       (g76 a0).bind fun v312 =>
       if v312 = true then
        some 2
       else
        some 1
      )
    )
  )
noncomputable def k62 : Eng.CS := { f := 62, calm := true, more := 0, ι := Int × Int, ok := fun i => g62 i.1 = some i.2, rds := fun _ => [], args := fun i => [.w (.v (.int .i32 (i.1)))], res := fun i => .v (.int .i64 (i.2)) }
set_option maxRecDepth 8000 in
set_option maxHeartbeats 4000000 in
theorem k62_ok : CalmOk Tryz.prog k62 := by
 refine R.calmspec Tryz.func62 nm62 rfl ?_
 rintro ⟨a0, r⟩ hok q _ args hargs
 match args, hargs with
 | [_], hargs =>
 obtain ⟨rfl, _⟩ := hargs
 refine ⟨envC [k73, k74, k75, k76] false [], 6, envC_ok (css_cons ⟨fun _ => k73_ok, fun h => (by cases h)⟩ (css_cons ⟨fun _ => k74_ok, fun h => (by cases h)⟩ (css_cons ⟨fun _ => k75_ok, fun h => (by cases h)⟩ (css_cons ⟨fun _ => k76_ok, fun h => (by cases h)⟩ (css_nil))))), rfl, (by intro x hx; simp only [List.mem_cons, List.not_mem_nil, or_false] at hx; rcases hx with rfl <;> rfl), ?_⟩
 have H : Gives (g62 a0) (fun a => a = r) := ⟨r, hok, rfl⟩
 unfold g62 at H
 clear hok
 obtain ⟨v300, hv301, H⟩ := call_st H
 refine ⟨(a0, v300), ⟨hv301⟩, ⟨trivial⟩, ?_⟩
 refine And.intro ⟨rfl⟩ ?_
 refine if_st H (fun h302 H => ?_) (fun h302 H => ?_)
 ·have hfin := fin_st H
  repeat refine mf2ZB2 ?_
  first | exact trivial | exact rfl
 ·obtain ⟨v303, hv304, H⟩ := call_st H
  refine ⟨(a0, v303), ⟨hv304⟩, ⟨trivial⟩, ?_⟩
  refine And.intro ⟨rfl⟩ ?_
  refine if_st H (fun h305 H => ?_) (fun h305 H => ?_)
  ·have hfin := fin_st H
   repeat refine mf2ZB2 ?_
   first | exact trivial | exact rfl
  ·obtain ⟨v306, hv307, H⟩ := call_st H
   refine ⟨(a0, v306), ⟨hv307⟩, ⟨trivial⟩, ?_⟩
   refine And.intro ⟨rfl⟩ ?_
   refine if_st H (fun h308 H => ?_) (fun h308 H => ?_)
   ·have hfin := fin_st H
    repeat refine mf2ZB2 ?_
    first | exact trivial | exact rfl
   ·obtain ⟨v312, hv313, H⟩ := call_st H
    refine ⟨(a0, v312), ⟨hv313⟩, ⟨trivial⟩, ?_⟩
    refine And.intro ⟨rfl⟩ ?_
    refine if_st H (fun h314 H => ?_) (fun h314 H => ?_)
    ·have hfin := fin_st H
     repeat refine mf2ZB2 ?_
     first | exact trivial | exact rfl
    ·have hfin := fin_st H
     repeat refine mf2ZB2 ?_
     first | exact trivial | exact rfl
noncomputable def g83 (a0 : Int) : Option (Bool) :=
 if 0 ≤ a0 then
  (
   if a0 ≤ 31 then
    some true
   else
    (
     if 127 ≤ a0 then
      some (decide (a0 ≤ 159))
     else
      some false
    )
  )
 else
  (
   if 127 ≤ a0 then
    some (decide (a0 ≤ 159))
   else
    some false
  )
noncomputable def k83 : Eng.CS := { f := 83, calm := true, more := 0, ι := Int × Bool, ok := fun i => g83 i.1 = some i.2, rds := fun _ => [], args := fun i => [.w (.v (.int .i32 (i.1)))], res := fun i => bS i.2 }
set_option maxRecDepth 8000 in
set_option maxHeartbeats 4000000 in
theorem k83_ok : CalmOk Tryz.prog k83 := by
 refine R.calmspec Tryz.func83 nm83 rfl ?_
 rintro ⟨a0, r⟩ hok q _ args hargs
 match args, hargs with
 | [_], hargs =>
 obtain ⟨rfl, _⟩ := hargs
 refine ⟨envC [] false [], 6, envC_ok (css_nil), rfl, (by intro x hx; simp only [List.mem_cons, List.not_mem_nil, or_false] at hx; rcases hx with rfl <;> rfl), ?_⟩
 have H : Gives (g83 a0) (fun a => a = r) := ⟨r, hok, rfl⟩
 unfold g83 at H
 clear hok
 refine if_st H (fun h315 H => ?_) (fun h315 H => ?_)
 ·refine if_st H (fun h316 H => ?_) (fun h316 H => ?_)
  ·have hfin := fin_st H
   repeat refine mf2ZB2 ?_
   first | exact trivial | exact rfl
  ·refine if_st H (fun h317 H => ?_) (fun h317 H => ?_)
   ·have hfin := fin_st H
    repeat refine mf2ZB2 ?_
    first | exact trivial | exact rfl
   ·have hfin := fin_st H
    repeat refine mf2ZB2 ?_
    first | exact trivial | exact rfl
 ·refine if_st H (fun h318 H => ?_) (fun h318 H => ?_)
  ·have hfin := fin_st H
   repeat refine mf2ZB2 ?_
   first | exact trivial | exact rfl
  ·have hfin := fin_st H
   repeat refine mf2ZB2 ?_
   first | exact trivial | exact rfl
noncomputable def g69 (a0 : Int) : Option (Bool) :=
 (g62 a0).bind fun v319 =>
 if v319 = 0 then
  (
   (g81 a0).bind fun v322 =>
   if v322 = true then
    (
     (g83 a0).bind fun v325 =>
     some (decide (¬ (v325 = true)))
    )
   else
    some false
  )
 else
  some false
noncomputable def k69 : Eng.CS := { f := 69, calm := true, more := 0, ι := Int × Bool, ok := fun i => g69 i.1 = some i.2, rds := fun _ => [], args := fun i => [.w (.v (.int .i32 (i.1)))], res := fun i => bS i.2 }
set_option maxRecDepth 8000 in
set_option maxHeartbeats 4000000 in
theorem k69_ok : CalmOk Tryz.prog k69 := by
 refine R.calmspec Tryz.func69 nm69 rfl ?_
 rintro ⟨a0, r⟩ hok q _ args hargs
 match args, hargs with
 | [_], hargs =>
 obtain ⟨rfl, _⟩ := hargs
 refine ⟨envC [k62, k81, k83] false [], 6, envC_ok (css_cons ⟨fun _ => k62_ok, fun h => (by cases h)⟩ (css_cons ⟨fun _ => k81_ok, fun h => (by cases h)⟩ (css_cons ⟨fun _ => k83_ok, fun h => (by cases h)⟩ (css_nil)))), rfl, (by intro x hx; simp only [List.mem_cons, List.not_mem_nil, or_false] at hx; rcases hx with rfl <;> rfl), ?_⟩
 have H : Gives (g69 a0) (fun a => a = r) := ⟨r, hok, rfl⟩
 unfold g69 at H
 clear hok
 obtain ⟨v319, hv320, H⟩ := call_st H
 refine ⟨(a0, v319), ⟨hv320⟩, ⟨trivial⟩, ?_⟩
 refine And.intro ⟨rfl⟩ ?_
 refine if_st H (fun h321 H => ?_) (fun h321 H => ?_)
 ·obtain ⟨v322, hv323, H⟩ := call_st H
  refine ⟨(a0, v322), ⟨hv323⟩, ⟨trivial⟩, ?_⟩
  refine And.intro ⟨rfl⟩ ?_
  refine if_st H (fun h324 H => ?_) (fun h324 H => ?_)
  ·obtain ⟨v325, hv326, H⟩ := call_st H
   refine ⟨(a0, v325), ⟨hv326⟩, ⟨trivial⟩, ?_⟩
   refine And.intro ⟨rfl⟩ ?_
   have hfin := fin_st H
   repeat refine mf2ZB2 ?_
   first | exact trivial | exact rfl
  ·have hfin := fin_st H
   repeat refine mf2ZB2 ?_
   first | exact trivial | exact rfl
 ·have hfin := fin_st H
  repeat refine mf2ZB2 ?_
  first | exact trivial | exact rfl
noncomputable def g58 (a0 : ByteArray) : Option (List ByteArray) :=
 ck (a0.size ≤ 140737488355328) <|
 (g61 (bytesOf a0)).bind fun v336 =>
 jn (α := _) (β := List ByteArray) (fun k465 =>
   (loopO (σ := List ByteArray × Int) (ρ := List ByteArray) (fun s468 =>
     if s468.2 < ((v336.1.length : Nat) : Int) then
      (
       ck (0 ≤ s468.2 ∧ s468.2 < ((v336.1.length : Nat) : Int)) <|
       (g68 (v336.1.getD s468.2.toNat 0)).bind fun v532 =>
       ck (isBytes v532) <|
       ck (inR .i64 (((s468.1.length : Nat) : Int) - 1)) <|
       ck (0 ≤ s468.2 ∧ s468.2 < ((v336.1.length : Nat) : Int)) <|
       (g62 (v336.1.getD s468.2.toNat 0)).bind fun v537 =>
       if 0 < v537 then
        (
         ck ((s468.1.length + 1) * 16 ≤ 140737488355328) <|
         ck (inR .i64 (s468.2 + 1)) <|
         some (.go ((s468.1 ++ [strOf v532]), s468.2 + 1))
        )
       else
        (
         ck (0 ≤ s468.2 ∧ s468.2 < ((v336.1.length : Nat) : Int)) <|
         (g69 (v336.1.getD s468.2.toNat 0)).bind fun v547 =>
         if v547 = true then
          (
           if 0 ≤ (((s468.1.length : Nat) : Int) - 1) then
            (
             ck (0 ≤ ((s468.1.length : Nat) : Int) - 1 ∧ ((s468.1.length : Nat) : Int) - 1 < ((s468.1.length : Nat) : Int)) <|
             ck (inR .i64 (((s468.1.getD (((s468.1.length : Nat) : Int) - 1).toNat default).size : Int) + ((strOf v532).size : Int))) <|
             if (((s468.1.getD (((s468.1.length : Nat) : Int) - 1).toNat default).size : Int) + ((strOf v532).size : Int)) ≤ 64 then
              (
               ck (0 ≤ ((s468.1.length : Nat) : Int) - 1 ∧ ((s468.1.length : Nat) : Int) - 1 < ((s468.1.length : Nat) : Int)) <|
               ck ((s468.1.getD (((s468.1.length : Nat) : Int) - 1).toNat default).size + (strOf v532).size ≤ 9223372036854775807) <|
               ck (0 ≤ ((s468.1.length : Nat) : Int) - 1 ∧ ((s468.1.length : Nat) : Int) - 1 < ((s468.1.length : Nat) : Int)) <|
               ck (inR .i64 (s468.2 + 1)) <|
               some (.go ((s468.1.set (((s468.1.length : Nat) : Int) - 1).toNat ((s468.1.getD (((s468.1.length : Nat) : Int) - 1).toNat default) ++ (strOf v532))), s468.2 + 1))
              )
             else
              (
               ck (inR .i64 (s468.2 + 1)) <|
               some (.go (s468.1, s468.2 + 1))
              )
            )
           else
            (
             ck (inR .i64 (s468.2 + 1)) <|
             some (.go (s468.1, s468.2 + 1))
            )
          )
         else
          (
           ck (inR .i64 (s468.2 + 1)) <|
           some (.go (s468.1, s468.2 + 1))
          )
        )
      )
     else
      some (.out s468.1)
    ) ([], 0)).bind fun o529 =>
    k465 o529
 ) (fun v464 =>
  some v464
 )
noncomputable def k58 : Eng.CS := { f := 58, calm := false, more := 1, ι := ByteArray × List ByteArray, ok := fun i => g58 i.1 = some i.2, rds := fun _ => [], args := fun i => [.w (.v (.string (i.1)))], res := fun i => .own 0, L' := fun i => [(0, .arr 9 1 i.2.length (es i.2))], rn := [(0, 0, 9, 1)] }
set_option maxRecDepth 8000 in
set_option maxHeartbeats 4000000 in
theorem k58_ok : CSOk Tryz.prog k58 := by
 refine R.cspec Tryz.func58 nm58 rfl ?_
 rintro ⟨a0, r⟩ hok q _ args hargs
 match args, hargs with
 | [_], hargs =>
 obtain ⟨rfl, _⟩ := hargs
 refine ⟨envC [k61, k62, k68, k69] false [(58, 12)], 6, envC_ok (css_cons ⟨fun h => (by cases h), fun _ => k61_ok⟩ (css_cons ⟨fun _ => k62_ok, fun h => (by cases h)⟩ (css_cons ⟨fun h => (by cases h), fun _ => k68_ok⟩ (css_cons ⟨fun _ => k69_ok, fun h => (by cases h)⟩ (css_nil))))), ?_⟩
 have H : Gives (g58 a0) (fun a => a = r) := ⟨r, hok, rfl⟩
 unfold g58 at H
 clear hok
 refine ob_sb H fun h332 H q333 A327 c328 hq329 hc330 hR331 => ?_
 intro n334 hn335
 obtain rfl : n334 = (bytesOf a0).length := hn335.trans (bytesOf_len a0).symm
 obtain ⟨v336, hv337, H⟩ := call_st H
 refine ⟨(bytesOf a0, v336), ⟨hv337⟩, ⟨trivial⟩, ?_⟩
 refine And.intro ⟨rfl, (Nat.le_trans (Nat.le_of_eq (bytesOf_len a0)) hc330), ei_len.trans ((show _ = _ from rfl).trans (Nat.mul_one _).symm), hR331⟩ ?_
 refine R.cut_fam H 22 [] [] (fun v464 => [(3, .own 22)]) (fun v464 => [(22, .arr 9 1 (v464.length) (es (v464)))]) [(10, .arr 21 1 (v336.1.length) (ei .i32 (v336.1))), (11, .arr 3 1 (v336.2.length) (ei .i64 (v336.2)))] 1 (fun H => ?_)
 refine And.intro ?_ ?_
 ·refine R.loop_fam (bind_st H) [4] [(3, 0, 9, 1)] (fun _ s468 => [(3, .own 14), (6, .v (.int .i64 (s468.2)))]) (fun _ s468 => [(14, .arr 9 1 (s468.1.length) (es (s468.1)))]) 1 (fun n566 H => ?_)
  refine ⟨(n566, _), ⟨H⟩, ⟨trivial⟩, ?_⟩
  repeat refine mo2ZB2 ?_
  rintro ⟨m0, s468⟩ H _
  obtain ⟨m469, hm0, H⟩ := IG_succ H
  dsimp only at hm0
  subst hm0
  try dsimp only at H
  refine if_st H (fun h530 H => ?_) (fun h530 H => ?_)
  ·refine ob_ck H fun h531 H => ?_
   refine ld_int (e := v336.1.getD s468.2.toNat 0) (own_get (ys := ei .i32 v336.1) (by first | rfl | simp [ei, eb, es, ec, c133]) (ei_get (l := v336.1) (by first | exact tn h531 | (have := tn h531; simp at this ⊢; omega) | (have := tn h531; simp; omega)))) ?_
   obtain ⟨v532, hv533, H⟩ := call_st H
   refine ⟨(v336.1.getD s468.2.toNat 0, v532), ⟨hv533⟩, ⟨trivial⟩, ?_⟩
   refine And.intro ⟨rfl⟩ ?_
   refine ob_str (l := v532) H fun h534 H => ?_
   refine ob_ck H fun h535 H => ?_
   refine ob_ck H fun h536 H => ?_
   refine ld_int (e := v336.1.getD s468.2.toNat 0) (own_get (ys := ei .i32 v336.1) (by first | rfl | simp [ei, eb, es, ec, c133]) (ei_get (l := v336.1) (by first | exact tn h536 | (have := tn h536; simp at this ⊢; omega) | (have := tn h536; simp; omega)))) ?_
   obtain ⟨v537, hv538, H⟩ := call_st H
   refine ⟨(v336.1.getD s468.2.toNat 0, v537), ⟨hv538⟩, ⟨trivial⟩, ?_⟩
   refine And.intro ⟨rfl⟩ ?_
   refine if_st H (fun h539 H => ?_) (fun h539 H => ?_)
   ·refine ob_app (by decide) (by first | exact es_one | ((repeat (refine List.forall_mem_cons.2 ⟨rfl, ?_⟩)); intro y hy; cases hy; done) | (intro y hy; simp [ei, eb, es, ec, c133] at hy; (first | (rcases hy with rfl | hy) | subst hy | skip); all_goals first | rfl | simp_all [Value.oneCell'])) H fun h540 H => ?_
    intro n541 zs543 hn542 hz544
    obtain rfl : n541 = (s468.1 ++ [strOf v532]).length := hn542.trans (by first | exact List.length_append.symm | (simp; done) | (simp; omega))
    obtain rfl : zs543 = es (s468.1 ++ [strOf v532]) := by first | exact hz544.trans (es_app (xs := s468.1) (ys := ([strOf v532]))).symm | (rw [hz544, es_vw]; first | exact es_app.symm | exact (es_app (xs := s468.1)).symm) | (rw [hz544]; simp [ei, eb, es, ec, c133])
    refine ob_ck H fun h545 H => ?_
    replace H := some_st H
    refine ⟨(m469, ((s468.1 ++ [strOf v532]), s468.2 + 1)), ⟨H, Nat.lt_succ_self _⟩, ⟨trivial⟩, ⟨rfl⟩, ?_⟩
    repeat refine mo2ZB2 ?_
    first | exact trivial | exact rfl
   ·refine ob_ck H fun h546 H => ?_
    refine ld_int (e := v336.1.getD s468.2.toNat 0) (own_get (ys := ei .i32 v336.1) (by first | rfl | simp [ei, eb, es, ec, c133]) (ei_get (l := v336.1) (by first | exact tn h546 | (have := tn h546; simp at this ⊢; omega) | (have := tn h546; simp; omega)))) ?_
    obtain ⟨v547, hv548, H⟩ := call_st H
    refine ⟨(v336.1.getD s468.2.toNat 0, v547), ⟨hv548⟩, ⟨trivial⟩, ?_⟩
    refine And.intro ⟨rfl⟩ ?_
    refine if_st H (fun h549 H => ?_) (fun h549 H => ?_)
    ·refine if_st H (fun h550 H => ?_) (fun h550 H => ?_)
     ·refine ob_ck H fun h551 H => ?_
      refine ld_str (e := s468.1.getD (((s468.1.length : Nat) : Int) - 1).toNat default) (own_get (ys := es s468.1) (by first | rfl | simp [ei, eb, es, ec, c133]) (es_get (l := s468.1) (by first | exact tn h551 | (have := tn h551; simp at this ⊢; omega) | (have := tn h551; simp; omega)))) ?_
      refine ob_ck H fun h552 H => ?_
      refine if_st H (fun h553 H => ?_) (fun h553 H => ?_)
      ·refine ob_ck H fun h554 H => ?_
       refine ld_str (e := s468.1.getD (((s468.1.length : Nat) : Int) - 1).toNat default) (own_get (ys := es s468.1) (by first | rfl | simp [ei, eb, es, ec, c133]) (es_get (l := s468.1) (by first | exact tn h554 | (have := tn h554; simp at this ⊢; omega) | (have := tn h554; simp; omega)))) ?_
       refine ob_ck H fun h555 H => ?_
       refine ob_ck H fun h556 H => ?_
       refine And.intro ⟨by first | (have := tn h556; simp [ei, eb, es, ec, c133] at this ⊢; omega) | (have := tn h556; simp [ei, eb, es, ec, c133]; omega)⟩ ?_
       intro n557 zs559 hn558 hz560
       subst hn558
       have hl561 : (s468.1.set (((s468.1.length : Nat) : Int) - 1).toNat ((s468.1.getD (((s468.1.length : Nat) : Int) - 1).toNat default) ++ (strOf v532))).length = s468.1.length := List.length_set
       obtain rfl : zs559 = es (s468.1.set (((s468.1.length : Nat) : Int) - 1).toNat ((s468.1.getD (((s468.1.length : Nat) : Int) - 1).toNat default) ++ (strOf v532))) := hz560.trans es_set.symm
       refine ob_ck H fun h562 H => ?_
       replace H := some_st H
       refine ⟨(m469, ((s468.1.set (((s468.1.length : Nat) : Int) - 1).toNat ((s468.1.getD (((s468.1.length : Nat) : Int) - 1).toNat default) ++ (strOf v532))), s468.2 + 1)), ⟨H, Nat.lt_succ_self _⟩, ⟨trivial⟩, ⟨rfl⟩, ?_⟩
       repeat refine mo2ZB2 ?_
       first | exact trivial | exact rfl
      ·refine ob_ck H fun h563 H => ?_
       replace H := some_st H
       refine ⟨(m469, (s468.1, s468.2 + 1)), ⟨H, Nat.lt_succ_self _⟩, ⟨trivial⟩, ⟨rfl⟩, ?_⟩
       repeat refine mo2ZB2 ?_
       first | exact trivial | exact rfl
     ·refine ob_ck H fun h564 H => ?_
      replace H := some_st H
      refine ⟨(m469, (s468.1, s468.2 + 1)), ⟨H, Nat.lt_succ_self _⟩, ⟨trivial⟩, ⟨rfl⟩, ?_⟩
      repeat refine mo2ZB2 ?_
      first | exact trivial | exact rfl
    ·refine ob_ck H fun h565 H => ?_
     replace H := some_st H
     refine ⟨(m469, (s468.1, s468.2 + 1)), ⟨H, Nat.lt_succ_self _⟩, ⟨trivial⟩, ⟨rfl⟩, ?_⟩
     repeat refine mo2ZB2 ?_
     first | exact trivial | exact rfl
  ·replace H := some_st H
   dsimp only [stp, sm] at H
   refine ⟨s468.1, ⟨H⟩, ⟨rfl⟩, ?_⟩
   repeat refine mo2ZB2 ?_
   first | exact trivial | exact rfl
 ·intro v464 H
  have hfin := fin_st H
  repeat refine mf2ZB2 ?_
  first | exact trivial | exact rfl
noncomputable def g20 (a0 : List ByteArray) (a1 : List ByteArray) : Option (Bool) :=
 if ¬ ((a0.length : Nat) : Int) = ((a1.length : Nat) : Int) then
  some false
 else
  (
   jn (α := _) (β := Unit) (fun k597 =>
     (loopO (σ := Int) (ρ := (Unit) ⊕ (Unit)) (fun s600 =>
       if s600 < ((a0.length : Nat) : Int) then
        (
         ck (0 ≤ s600 ∧ s600 < ((a0.length : Nat) : Int)) <|
         ck (0 ≤ s600 ∧ s600 < ((a1.length : Nat) : Int)) <|
         if ¬ ((a0.getD s600.toNat default).data.toList = (a1.getD s600.toNat default).data.toList) then
          some (.out (.inl (())))
         else
          (
           ck (inR .i64 (s600 + 1)) <|
           some (.go (s600 + 1))
          )
        )
       else
        some (.out (.inr (())))
      ) 0).bind fun o612 =>
     sm o612 (fun o618 =>
       some false
      ) (fun o619 =>
       k597 ()
      )
   ) (fun v596 =>
    some true
   )
  )
noncomputable def k20 : Eng.CS := { f := 20, calm := true, more := 0, ι := (List ByteArray) × (List ByteArray) × Bool, ok := fun i => g20 i.1 i.2.1 = some i.2.2, rds := fun _ => [], args := fun i => [.sl 1 i.1.length (es i.1), .sl 1 i.2.1.length (es i.2.1)], res := fun i => bS i.2.2 }
set_option maxRecDepth 8000 in
set_option maxHeartbeats 4000000 in
theorem k20_ok : CalmOk Tryz.prog k20 := by
 refine R.calmspec Tryz.func20 nm20 rfl ?_
 rintro ⟨a0, a1, r⟩ hok q _ args hargs
 match args, hargs with
 | [_, _], hargs =>
 obtain ⟨⟨A0, cp0, rfl, hc0, _, hR0⟩, ⟨A1, cp1, rfl, hc1, _, hR1⟩, _⟩ := hargs
 refine ⟨envC [] false [(20, 8)], 6, envC_ok (css_nil), rfl, (by intro x hx; simp only [List.mem_cons, List.not_mem_nil, or_false] at hx; rcases hx with rfl | rfl <;> rfl), ?_⟩
 have H : Gives (g20 a0 a1) (fun a => a = r) := ⟨r, hok, rfl⟩
 unfold g20 at H
 clear hok
 refine if_st H (fun h568 H => ?_) (fun h568 H => ?_)
 ·have hfin := fin_st H
  repeat refine mf2ZB2 ?_
  first | exact trivial | exact rfl
 ·refine R.cut_fam H 13 [] [] (fun v596 => []) (fun v596 => []) [] 0 (fun H => ?_)
  refine And.intro ?_ ?_
  ·refine R.loop_fam (bind_st H) [0, 1] [] (fun _ s600 => [(5, .v (.int .i64 (s600)))]) (fun _ s600 => []) 0 (fun n620 H => ?_)
   refine ⟨(n620, _), ⟨H⟩, ⟨trivial⟩, ?_⟩
   repeat refine mo2ZB2 ?_
   rintro ⟨m0, s600⟩ H _
   obtain ⟨m601, hm0, H⟩ := IG_succ H
   dsimp only at hm0
   subst hm0
   try dsimp only at H
   refine if_st H (fun h613 H => ?_) (fun h613 H => ?_)
   ·refine And.intro ⟨by kernel_rfl⟩ ?_
    refine ob_ix hR0 (fun h => es0 h) H fun h614 H => ?_
    refine ld_str (e := a0.getD s600.toNat default) (rd_get hR0 (es_get (l := a0) (tn h614))) ?_
    refine ob_ix hR1 (fun h => es0 h) H fun h615 H => ?_
    refine ld_str (e := a1.getD s600.toNat default) (rd_get hR1 (es_get (l := a1) (tn h615))) ?_
    refine if_st H (fun h616 H => ?_) (fun h616 H => ?_)
    ·replace H := some_st H
     dsimp only [stp, sm] at H
     have hfin := fin_st H
     repeat refine mf2ZB2 ?_
     first | exact trivial | exact rfl
    ·refine ob_ck H fun h617 H => ?_
     replace H := some_st H
     refine ⟨(m601, s600 + 1), ⟨H, Nat.lt_succ_self _⟩, ⟨trivial⟩, ⟨rfl⟩, ?_⟩
     repeat refine mo2ZB2 ?_
     first | exact trivial | exact rfl
   ·replace H := some_st H
    dsimp only [stp, sm] at H
    refine ⟨(), ⟨H⟩, ⟨rfl⟩, ?_⟩
    repeat refine mo2ZB2 ?_
    first | exact trivial | exact rfl
  ·intro v596 H
   have hfin := fin_st H
   repeat refine mf2ZB2 ?_
   first | exact trivial | exact rfl
noncomputable def g103  : Option (List Int) :=
 some ([768, 879, 1155, 1161, 1425, 1469, 1471, 1471, 1473, 1474, 1476, 1477, 1479, 1479, 1552, 1562, 1611, 1631, 1648, 1648, 1750, 1756, 1759, 1764, 1767, 1768, 1770, 1773, 3633, 3633, 3636, 3642, 3655, 3662, 6832, 6911, 7616, 7679, 8203, 8207, 8288, 8292, 8400, 8432, 12330, 12333, 12441, 12442, 65024, 65039, 65056, 65071, 65279, 65279, 917760, 917999])
noncomputable def k103 : Eng.CS := { f := 103, calm := false, more := 1, ι := List Int, ok := fun i => g103  = some i, rds := fun _ => [], args := fun i => [], res := fun i => .own 0, L' := fun i => [(0, .arr 21 1 i.length (ei .i32 i))], rn := [(0, 0, 21, 1)] }
set_option maxRecDepth 60000 in
set_option maxHeartbeats 4000000 in
theorem k103_ok : CSOk Tryz.prog k103 := by
 refine R.cspec Tryz.func103 nm103 rfl ?_
 rintro r hok q _ args hargs
 match args, hargs with
 | [], hargs =>
 refine ⟨envC [] false [], 6, envC_ok (css_nil), ?_⟩
 have H : Gives (g103 ) (fun a => a = r) := ⟨r, hok, rfl⟩
 unfold g103 at H
 clear hok
 have hfin := fin_st H
 repeat refine mf2ZB2 ?_
 first | exact trivial | exact rfl
noncomputable def g100  : Option (List Int) :=
 some ([4352, 4447, 8986, 8987, 9001, 9002, 9193, 9196, 9200, 9200, 9203, 9203, 9725, 9726, 9748, 9749, 9800, 9811, 9855, 9855, 9875, 9875, 9889, 9889, 9898, 9899, 9917, 9918, 9924, 9925, 9934, 9934, 9940, 9940, 9962, 9962, 9970, 9971, 9973, 9973, 9978, 9978, 9981, 9981, 9989, 9989, 9994, 9995, 10024, 10024, 10060, 10060, 10062, 10062, 10067, 10069, 10071, 10071, 10133, 10135, 10160, 10160, 10175, 10175, 11035, 11036, 11088, 11088, 11093, 11093, 11904, 12350, 12353, 19903, 19968, 42191, 43360, 43391, 44032, 55203, 63744, 64255, 65040, 65049, 65072, 65135, 65281, 65376, 65504, 65510, 127744, 128591, 128640, 128767, 129280, 129535, 129648, 129791, 131072, 196605, 196608, 262141])
noncomputable def k100 : Eng.CS := { f := 100, calm := false, more := 1, ι := List Int, ok := fun i => g100  = some i, rds := fun _ => [], args := fun i => [], res := fun i => .own 0, L' := fun i => [(0, .arr 21 1 i.length (ei .i32 i))], rn := [(0, 0, 21, 1)] }
set_option maxRecDepth 60000 in
set_option maxHeartbeats 4000000 in
theorem k100_ok : CSOk Tryz.prog k100 := by
 refine R.cspec Tryz.func100 nm100 rfl ?_
 rintro r hok q _ args hargs
 match args, hargs with
 | [], hargs =>
 refine ⟨envC [] false [], 6, envC_ok (css_nil), ?_⟩
 have H : Gives (g100 ) (fun a => a = r) := ⟨r, hok, rfl⟩
 unfold g100 at H
 clear hok
 have hfin := fin_st H
 repeat refine mf2ZB2 ?_
 first | exact trivial | exact rfl
noncomputable def g64 (a0 : Int) : Option (Bool) :=
 if 0 ≤ a0 then
  (
   if a0 ≤ 31 then
    some true
   else
    (
     if 127 ≤ a0 then
      some (decide (a0 ≤ 159))
     else
      some false
    )
  )
 else
  (
   if 127 ≤ a0 then
    some (decide (a0 ≤ 159))
   else
    some false
  )
noncomputable def k64 : Eng.CS := { f := 64, calm := true, more := 0, ι := Int × Bool, ok := fun i => g64 i.1 = some i.2, rds := fun _ => [], args := fun i => [.w (.v (.int .i32 (i.1)))], res := fun i => bS i.2 }
set_option maxRecDepth 8000 in
set_option maxHeartbeats 4000000 in
theorem k64_ok : CalmOk Tryz.prog k64 := by
 refine R.calmspec Tryz.func64 nm64 rfl ?_
 rintro ⟨a0, r⟩ hok q _ args hargs
 match args, hargs with
 | [_], hargs =>
 obtain ⟨rfl, _⟩ := hargs
 refine ⟨envC [] false [], 6, envC_ok (css_nil), rfl, (by intro x hx; simp only [List.mem_cons, List.not_mem_nil, or_false] at hx; rcases hx with rfl <;> rfl), ?_⟩
 have H : Gives (g64 a0) (fun a => a = r) := ⟨r, hok, rfl⟩
 unfold g64 at H
 clear hok
 refine if_st H (fun h621 H => ?_) (fun h621 H => ?_)
 ·refine if_st H (fun h622 H => ?_) (fun h622 H => ?_)
  ·have hfin := fin_st H
   repeat refine mf2ZB2 ?_
   first | exact trivial | exact rfl
  ·refine if_st H (fun h623 H => ?_) (fun h623 H => ?_)
   ·have hfin := fin_st H
    repeat refine mf2ZB2 ?_
    first | exact trivial | exact rfl
   ·have hfin := fin_st H
    repeat refine mf2ZB2 ?_
    first | exact trivial | exact rfl
 ·refine if_st H (fun h624 H => ?_) (fun h624 H => ?_)
  ·have hfin := fin_st H
   repeat refine mf2ZB2 ?_
   first | exact trivial | exact rfl
  ·have hfin := fin_st H
   repeat refine mf2ZB2 ?_
   first | exact trivial | exact rfl
noncomputable def g84 (a0 : Int) : Option (Bool) :=
 if 0 ≤ a0 then
  (
   if a0 ≤ 1114111 then
    (
     if a0 < 55296 then
      some true
     else
      some (decide (57343 < a0))
    )
   else
    some false
  )
 else
  some false
noncomputable def k84 : Eng.CS := { f := 84, calm := true, more := 0, ι := Int × Bool, ok := fun i => g84 i.1 = some i.2, rds := fun _ => [], args := fun i => [.w (.v (.int .i32 (i.1)))], res := fun i => bS i.2 }
set_option maxRecDepth 8000 in
set_option maxHeartbeats 4000000 in
theorem k84_ok : CalmOk Tryz.prog k84 := by
 refine R.calmspec Tryz.func84 nm84 rfl ?_
 rintro ⟨a0, r⟩ hok q _ args hargs
 match args, hargs with
 | [_], hargs =>
 obtain ⟨rfl, _⟩ := hargs
 refine ⟨envC [] false [], 6, envC_ok (css_nil), rfl, (by intro x hx; simp only [List.mem_cons, List.not_mem_nil, or_false] at hx; rcases hx with rfl <;> rfl), ?_⟩
 have H : Gives (g84 a0) (fun a => a = r) := ⟨r, hok, rfl⟩
 unfold g84 at H
 clear hok
 refine if_st H (fun h625 H => ?_) (fun h625 H => ?_)
 ·refine if_st H (fun h626 H => ?_) (fun h626 H => ?_)
  ·refine if_st H (fun h627 H => ?_) (fun h627 H => ?_)
   ·have hfin := fin_st H
    repeat refine mf2ZB2 ?_
    first | exact trivial | exact rfl
   ·have hfin := fin_st H
    repeat refine mf2ZB2 ?_
    first | exact trivial | exact rfl
  ·have hfin := fin_st H
   repeat refine mf2ZB2 ?_
   first | exact trivial | exact rfl
 ·have hfin := fin_st H
  repeat refine mf2ZB2 ?_
  first | exact trivial | exact rfl
noncomputable def g85 (a0 : Int) : Option (Bool) :=
 (g103).bind fun v628 =>
 jn (α := _) (β := Unit) (fun k671 =>
   (loopO (σ := Int) (ρ := (Bool) ⊕ (Unit)) (fun s674 =>
     ck (inR .i64 (s674 + 1)) <|
     if (s674 + 1) < ((v628.length : Nat) : Int) then
      (
       ck (0 ≤ s674 ∧ s674 < ((v628.length : Nat) : Int)) <|
       ck (inR .i64 (s674 + 1)) <|
       ck (0 ≤ s674 + 1 ∧ s674 + 1 < ((v628.length : Nat) : Int)) <|
       if a0 < (v628.getD s674.toNat 0) then
        some (.out (.inl (false)))
       else
        (
         if a0 ≤ (v628.getD (s674 + 1).toNat 0) then
          some (.out (.inl (true)))
         else
          (
           ck (inR .i64 (s674 + 2)) <|
           some (.go (s674 + 2))
          )
        )
      )
     else
      some (.out (.inr (())))
    ) 0).bind fun o692 =>
   sm o692 (fun o701 =>
     some o701
    ) (fun o702 =>
     k671 ()
    )
 ) (fun v670 =>
  some false
 )
noncomputable def k85 : Eng.CS := { f := 85, calm := true, more := 0, ι := Int × Bool, ok := fun i => g85 i.1 = some i.2, rds := fun _ => [], args := fun i => [.w (.v (.int .i32 (i.1)))], res := fun i => bS i.2 }
set_option maxRecDepth 8000 in
set_option maxHeartbeats 4000000 in
theorem k85_ok : CalmOk Tryz.prog k85 := by
 refine R.calmspec Tryz.func85 nm85 rfl ?_
 rintro ⟨a0, r⟩ hok q _ args hargs
 match args, hargs with
 | [_], hargs =>
 obtain ⟨rfl, _⟩ := hargs
 refine ⟨envC [k103] false [(86, 8)], 6, envC_ok (css_cons ⟨fun h => (by cases h), fun _ => k103_ok⟩ (css_nil)), rfl, (by intro x hx; simp only [List.mem_cons, List.not_mem_nil, or_false] at hx; rcases hx with rfl <;> rfl), ?_⟩
 have H : Gives (g85 a0) (fun a => a = r) := ⟨r, hok, rfl⟩
 unfold g85 at H
 clear hok
 obtain ⟨v628, hv629, H⟩ := call_st H
 refine ⟨v628, ⟨hv629⟩, ⟨trivial⟩, ?_⟩
 refine R.cut_fam H 27 [4] [] (fun v670 => []) (fun v670 => []) [(9, .arr 21 1 (v628.length) (ei .i32 (v628))), (10, .cells 96 [.own 9]), (14, .cells 21 [.v (.int .i32 (a0))]), (15, .cells 4 [.bb false])] 0 (fun H => ?_)
 refine And.intro ?_ ?_
 ·refine R.loop_fam (bind_st H) [0, 1] [] (fun _ s674 => [(3, .v (.int .i64 (s674)))]) (fun _ s674 => []) 0 (fun n703 H => ?_)
  refine ⟨(n703, _), ⟨H⟩, ⟨trivial⟩, ?_⟩
  repeat refine mo2ZB2 ?_
  rintro ⟨m0, s674⟩ H _
  obtain ⟨m675, hm0, H⟩ := IG_succ H
  dsimp only at hm0
  subst hm0
  try dsimp only at H
  refine ob_ck H fun h693 H => ?_
  refine if_st H (fun h694 H => ?_) (fun h694 H => ?_)
  ·refine And.intro ⟨by kernel_rfl⟩ ?_
   refine ⟨(Pn.calm 0 (Pn.calm 1 (Pn.calm 2 (Pn.calm 3 (Pn.calm 4 (Pn.calm 5 (Pn.calm 6 (Pn.calm 7 (Pn.calm 8 (Pn.calm 9 (Pn.eff 10 [0, 4, 9, 3, 8, 1, 2, 5, 7, 6] (Pn.calm 11 Pn.done) Pn.no))))))))))), ⟨by kernel_rfl⟩, ?_⟩
   refine ob_ck H fun h695 H => ?_
   refine ld_int (e := v628.getD s674.toNat 0) (own_get (ys := ei .i32 v628) (by first | rfl | simp [ei, eb, es, ec, c133]) (ei_get (l := v628) (by first | exact tn h695 | (have := tn h695; simp at this ⊢; omega) | (have := tn h695; simp; omega)))) ?_
   refine ob_ck H fun h696 H => ?_
   refine ob_ck H fun h697 H => ?_
   refine ld_int (e := v628.getD (s674 + 1).toNat 0) (own_get (ys := ei .i32 v628) (by first | rfl | simp [ei, eb, es, ec, c133]) (ei_get (l := v628) (by first | exact tn h697 | (have := tn h697; simp at this ⊢; omega) | (have := tn h697; simp; omega)))) ?_
   refine And.intro ?_ trivial
   refine if_st H (fun h698 H => ?_) (fun h698 H => ?_)
   ·refine And.intro ⟨fun _ _ _ h => h⟩ ?_
    replace H := some_st H
    dsimp only [stp, sm] at H
    have hfin := fin_st H
    repeat refine mf2ZB2 ?_
    first | exact trivial | exact rfl
   ·refine if_st H (fun h699 H => ?_) (fun h699 H => ?_)
    ·refine And.intro ⟨fun _ _ _ h => h⟩ ?_
     replace H := some_st H
     dsimp only [stp, sm] at H
     have hfin := fin_st H
     repeat refine mf2ZB2 ?_
     first | exact trivial | exact rfl
    ·refine And.intro ⟨fun _ _ _ h => h⟩ ?_
     refine ob_ck H fun h700 H => ?_
     replace H := some_st H
     refine ⟨(m675, s674 + 2), ⟨H, Nat.lt_succ_self _⟩, ⟨trivial⟩, ⟨rfl⟩, ?_⟩
     repeat refine mo2ZB2 ?_
     first | exact trivial | exact rfl
  ·replace H := some_st H
   dsimp only [stp, sm] at H
   refine ⟨(), ⟨H⟩, ⟨rfl⟩, ?_⟩
   repeat refine mo2ZB2 ?_
   first | exact trivial | exact rfl
 ·intro v670 H
  have hfin := fin_st H
  repeat refine mf2ZB2 ?_
  first | exact trivial | exact rfl
noncomputable def g71 (a0 : Int) : Option (Int) :=
 jn (α := _) (β := Bool) (fun k885 =>
   (g84 a0).bind fun v886 =>
   if ¬ (v886 = true) then
    k885 true
   else
    (
     (g64 a0).bind fun v889 =>
     if v889 = true then
      k885 true
     else
      (
       (g85 a0).bind fun v892 =>
       k885 v892
      )
    )
 ) (fun v884 =>
  if v884 = true then
   some 0
  else
   (
    (g100).bind fun v895 =>
    jn (α := _) (β := Unit) (fun k930 =>
      (loopO (σ := Int) (ρ := (Bool) ⊕ (Unit)) (fun s933 =>
        ck (inR .i64 (s933 + 1)) <|
        if (s933 + 1) < ((v895.length : Nat) : Int) then
         (
          ck (0 ≤ s933 ∧ s933 < ((v895.length : Nat) : Int)) <|
          ck (inR .i64 (s933 + 1)) <|
          ck (0 ≤ s933 + 1 ∧ s933 + 1 < ((v895.length : Nat) : Int)) <|
          if a0 < (v895.getD s933.toNat 0) then
           some (.out (.inl (false)))
          else
           (
            if a0 ≤ (v895.getD (s933 + 1).toNat 0) then
             some (.out (.inl (true)))
            else
             (
              ck (inR .i64 (s933 + 2)) <|
              some (.go (s933 + 2))
             )
           )
         )
        else
         some (.out (.inr (())))
       ) 0).bind fun o951 =>
      sm o951 (fun o960 =>
        if o960 = true then
         some 2
        else
         some 1
       ) (fun o962 =>
        k930 ()
       )
    ) (fun v929 =>
     some 1
    )
   )
 )
noncomputable def k71 : Eng.CS := { f := 71, calm := true, more := 0, ι := Int × Int, ok := fun i => g71 i.1 = some i.2, rds := fun _ => [], args := fun i => [.w (.v (.int .i32 (i.1)))], res := fun i => .v (.int .i64 (i.2)) }
set_option maxRecDepth 8000 in
set_option maxHeartbeats 4000000 in
theorem k71_ok : CalmOk Tryz.prog k71 := by
 refine R.calmspec Tryz.func71 nm71 rfl ?_
 rintro ⟨a0, r⟩ hok q _ args hargs
 match args, hargs with
 | [_], hargs =>
 obtain ⟨rfl, _⟩ := hargs
 refine ⟨envC [k64, k84, k85, k100] false [(71, 2), (86, 8)], 6, envC_ok (css_cons ⟨fun _ => k64_ok, fun h => (by cases h)⟩ (css_cons ⟨fun _ => k84_ok, fun h => (by cases h)⟩ (css_cons ⟨fun _ => k85_ok, fun h => (by cases h)⟩ (css_cons ⟨fun h => (by cases h), fun _ => k100_ok⟩ (css_nil))))), rfl, (by intro x hx; simp only [List.mem_cons, List.not_mem_nil, or_false] at hx; rcases hx with rfl <;> rfl), ?_⟩
 have H : Gives (g71 a0) (fun a => a = r) := ⟨r, hok, rfl⟩
 unfold g71 at H
 clear hok
 refine R.cut_fam H 14 [0] [] (fun v884 => [(3, bS v884)]) (fun v884 => []) [] 0 (fun H => ?_)
 refine And.intro ?_ ?_
 ·obtain ⟨v886, hv887, H⟩ := call_st H
  refine ⟨(a0, v886), ⟨hv887⟩, ⟨trivial⟩, ?_⟩
  refine And.intro ⟨rfl⟩ ?_
  refine if_st H (fun h888 H => ?_) (fun h888 H => ?_)
  ·refine ⟨true, ⟨H⟩, ⟨rfl⟩, ?_⟩
   repeat refine mo2ZB2 ?_
   first | exact trivial | exact rfl
  ·obtain ⟨v889, hv890, H⟩ := call_st H
   refine ⟨(a0, v889), ⟨hv890⟩, ⟨trivial⟩, ?_⟩
   refine And.intro ⟨rfl⟩ ?_
   refine if_st H (fun h891 H => ?_) (fun h891 H => ?_)
   ·refine ⟨true, ⟨H⟩, ⟨rfl⟩, ?_⟩
    repeat refine mo2ZB2 ?_
    first | exact trivial | exact rfl
   ·obtain ⟨v892, hv893, H⟩ := call_st H
    refine ⟨(a0, v892), ⟨hv893⟩, ⟨trivial⟩, ?_⟩
    refine And.intro ⟨rfl⟩ ?_
    refine ⟨v892, ⟨H⟩, ⟨rfl⟩, ?_⟩
    repeat refine mo2ZB2 ?_
    first | exact trivial | exact rfl
 ·intro v884 H
  refine if_st H (fun h894 H => ?_) (fun h894 H => ?_)
  ·have hfin := fin_st H
   repeat refine mf2ZB2 ?_
   first | exact trivial | exact rfl
  ·obtain ⟨v895, hv896, H⟩ := call_st H
   refine ⟨v895, ⟨hv896⟩, ⟨trivial⟩, ?_⟩
   refine R.cut_fam H 40 [4] [] (fun v929 => []) (fun v929 => []) [(22, .arr 21 1 (v895.length) (ei .i32 (v895))), (23, .cells 96 [.own 22]), (27, .cells 21 [.v (.int .i32 (a0))]), (28, .cells 4 [.bb false])] 0 (fun H => ?_)
   refine And.intro ?_ ?_
   ·refine R.loop_fam (bind_st H) [0, 1] [] (fun _ s933 => [(3, .v (.int .i64 (s933)))]) (fun _ s933 => []) 0 (fun n963 H => ?_)
    refine ⟨(n963, _), ⟨H⟩, ⟨trivial⟩, ?_⟩
    repeat refine mo2ZB2 ?_
    rintro ⟨m0, s933⟩ H _
    obtain ⟨m934, hm0, H⟩ := IG_succ H
    dsimp only at hm0
    subst hm0
    try dsimp only at H
    refine ob_ck H fun h952 H => ?_
    refine if_st H (fun h953 H => ?_) (fun h953 H => ?_)
    ·refine And.intro ⟨by kernel_rfl⟩ ?_
     refine ⟨(Pn.calm 0 (Pn.calm 1 (Pn.calm 2 (Pn.calm 3 (Pn.calm 4 (Pn.calm 5 (Pn.calm 6 (Pn.calm 7 (Pn.calm 8 (Pn.calm 9 (Pn.eff 10 [0, 4, 9, 3, 8, 1, 2, 5, 7, 6] (Pn.calm 11 Pn.done) Pn.no))))))))))), ⟨by kernel_rfl⟩, ?_⟩
     refine ob_ck H fun h954 H => ?_
     refine ld_int (e := v895.getD s933.toNat 0) (own_get (ys := ei .i32 v895) (by first | rfl | simp [ei, eb, es, ec, c133]) (ei_get (l := v895) (by first | exact tn h954 | (have := tn h954; simp at this ⊢; omega) | (have := tn h954; simp; omega)))) ?_
     refine ob_ck H fun h955 H => ?_
     refine ob_ck H fun h956 H => ?_
     refine ld_int (e := v895.getD (s933 + 1).toNat 0) (own_get (ys := ei .i32 v895) (by first | rfl | simp [ei, eb, es, ec, c133]) (ei_get (l := v895) (by first | exact tn h956 | (have := tn h956; simp at this ⊢; omega) | (have := tn h956; simp; omega)))) ?_
     refine And.intro ?_ trivial
     refine if_st H (fun h957 H => ?_) (fun h957 H => ?_)
     ·refine And.intro ⟨fun _ _ _ h => h⟩ ?_
      replace H := some_st H
      dsimp only [stp, sm] at H
      have hfin := fin_st H
      repeat refine mf2ZB2 ?_
      first | exact trivial | exact rfl
     ·refine if_st H (fun h958 H => ?_) (fun h958 H => ?_)
      ·refine And.intro ⟨fun _ _ _ h => h⟩ ?_
       replace H := some_st H
       dsimp only [stp, sm] at H
       have hfin := fin_st H
       repeat refine mf2ZB2 ?_
       first | exact trivial | exact rfl
      ·refine And.intro ⟨fun _ _ _ h => h⟩ ?_
       refine ob_ck H fun h959 H => ?_
       replace H := some_st H
       refine ⟨(m934, s933 + 2), ⟨H, Nat.lt_succ_self _⟩, ⟨trivial⟩, ⟨rfl⟩, ?_⟩
       repeat refine mo2ZB2 ?_
       first | exact trivial | exact rfl
    ·replace H := some_st H
     dsimp only [stp, sm] at H
     refine ⟨(), ⟨H⟩, ⟨rfl⟩, ?_⟩
     repeat refine mo2ZB2 ?_
     first | exact trivial | exact rfl
   ·intro v929 H
    have hfin := fin_st H
    repeat refine mf2ZB2 ?_
    first | exact trivial | exact rfl
noncomputable def g80 (a0 : Int) : Option (Bool) :=
 (g71 a0).bind fun v975 =>
 if ¬ v975 = 0 then
  some false
 else
  (
   (g64 a0).bind fun v978 =>
   if v978 = true then
    some false
   else
    (
     if 0 ≤ a0 then
      (
       if a0 ≤ 1114111 then
        (
         if a0 < 55296 then
          some true
         else
          some (decide (57343 < a0))
        )
       else
        some false
      )
     else
      some false
    )
  )
noncomputable def k80 : Eng.CS := { f := 80, calm := true, more := 0, ι := Int × Bool, ok := fun i => g80 i.1 = some i.2, rds := fun _ => [], args := fun i => [.w (.v (.int .i32 (i.1)))], res := fun i => bS i.2 }
set_option maxRecDepth 8000 in
set_option maxHeartbeats 4000000 in
theorem k80_ok : CalmOk Tryz.prog k80 := by
 refine R.calmspec Tryz.func80 nm80 rfl ?_
 rintro ⟨a0, r⟩ hok q _ args hargs
 match args, hargs with
 | [_], hargs =>
 obtain ⟨rfl, _⟩ := hargs
 refine ⟨envC [k64, k71] false [], 6, envC_ok (css_cons ⟨fun _ => k64_ok, fun h => (by cases h)⟩ (css_cons ⟨fun _ => k71_ok, fun h => (by cases h)⟩ (css_nil))), rfl, (by intro x hx; simp only [List.mem_cons, List.not_mem_nil, or_false] at hx; rcases hx with rfl <;> rfl), ?_⟩
 have H : Gives (g80 a0) (fun a => a = r) := ⟨r, hok, rfl⟩
 unfold g80 at H
 clear hok
 obtain ⟨v975, hv976, H⟩ := call_st H
 refine ⟨(a0, v975), ⟨hv976⟩, ⟨trivial⟩, ?_⟩
 refine And.intro ⟨rfl⟩ ?_
 refine if_st H (fun h977 H => ?_) (fun h977 H => ?_)
 ·have hfin := fin_st H
  repeat refine mf2ZB2 ?_
  first | exact trivial | exact rfl
 ·obtain ⟨v978, hv979, H⟩ := call_st H
  refine ⟨(a0, v978), ⟨hv979⟩, ⟨trivial⟩, ?_⟩
  refine And.intro ⟨rfl⟩ ?_
  refine if_st H (fun h980 H => ?_) (fun h980 H => ?_)
  ·have hfin := fin_st H
   repeat refine mf2ZB2 ?_
   first | exact trivial | exact rfl
  ·refine if_st H (fun h981 H => ?_) (fun h981 H => ?_)
   ·refine if_st H (fun h982 H => ?_) (fun h982 H => ?_)
    ·refine if_st H (fun h983 H => ?_) (fun h983 H => ?_)
     ·have hfin := fin_st H
      repeat refine mf2ZB2 ?_
      first | exact trivial | exact rfl
     ·have hfin := fin_st H
      repeat refine mf2ZB2 ?_
      first | exact trivial | exact rfl
    ·have hfin := fin_st H
     repeat refine mf2ZB2 ?_
     first | exact trivial | exact rfl
   ·have hfin := fin_st H
    repeat refine mf2ZB2 ?_
    first | exact trivial | exact rfl
noncomputable def g78 (a0 : Int) : Option (Bool) :=
 (g71 a0).bind fun v984 =>
 some (decide (0 < v984))
noncomputable def k78 : Eng.CS := { f := 78, calm := true, more := 0, ι := Int × Bool, ok := fun i => g78 i.1 = some i.2, rds := fun _ => [], args := fun i => [.w (.v (.int .i32 (i.1)))], res := fun i => bS i.2 }
set_option maxRecDepth 8000 in
set_option maxHeartbeats 4000000 in
theorem k78_ok : CalmOk Tryz.prog k78 := by
 refine R.calmspec Tryz.func78 nm78 rfl ?_
 rintro ⟨a0, r⟩ hok q _ args hargs
 match args, hargs with
 | [_], hargs =>
 obtain ⟨rfl, _⟩ := hargs
 refine ⟨envC [k71] false [], 6, envC_ok (css_cons ⟨fun _ => k71_ok, fun h => (by cases h)⟩ (css_nil)), rfl, (by intro x hx; simp only [List.mem_cons, List.not_mem_nil, or_false] at hx; rcases hx with rfl <;> rfl), ?_⟩
 have H : Gives (g78 a0) (fun a => a = r) := ⟨r, hok, rfl⟩
 unfold g78 at H
 clear hok
 obtain ⟨v984, hv985, H⟩ := call_st H
 refine ⟨(a0, v984), ⟨hv985⟩, ⟨trivial⟩, ?_⟩
 refine And.intro ⟨rfl⟩ ?_
 have hfin := fin_st H
 repeat refine mf2ZB2 ?_
 first | exact trivial | exact rfl
end Go.Proofs.YtenjkphlbdhaiaaGreat
end
section
namespace Go.Proofs.YtenjkphlbdhaiaaGreat
open Go Go.Eng
theorem mo1ZC1 {p q : Prop} (k : q) (h : p := by first | exact rfl | exact Iff.rfl | exact ⟨rfl, rfl⟩ | exact decide_eq_true_iff | (constructor <;> first | exact rfl | (simp only [ei, eb, es, ec, c133, gmin, gmax, List.map_append, List.flatMap_append, List.nil_append, List.append_nil, List.append_assoc]; done) | omega | (simp only [List.nil_append, List.length_append, List.length_cons, List.length_nil]; omega) | (simp [ei, eb, es, ec, c133, gmin, gmax]; done)) | exact rfl | (simp only [ei, eb, es, ec, c133, gmin, gmax, List.map_append, List.flatMap_append, List.nil_append, List.append_nil, List.append_assoc]; done) | omega | (simp only [List.nil_append, List.length_append, List.length_cons, List.length_nil]; omega) | (simp [ei, eb, es, ec, c133, gmin, gmax]; done) | simp [ei, eb, es, ec, c133, gmin, gmax]) : Ob p ∧ q := ⟨⟨h⟩, k⟩
theorem mf1ZC1 {p q : Prop} (k : q) (h : p := by first | (rw [← hfin] <;> first | exact rfl | exact Iff.rfl | exact ⟨rfl, rfl⟩ | exact decide_eq_true_iff | (constructor <;> first | exact rfl | (simp only [ei, eb, es, ec, c133, gmin, gmax, List.map_append, List.flatMap_append, List.nil_append, List.append_nil, List.append_assoc]; done) | omega | (simp only [List.nil_append, List.length_append, List.length_cons, List.length_nil]; omega) | (simp [ei, eb, es, ec, c133, gmin, gmax]; done)) | exact rfl | (simp only [ei, eb, es, ec, c133, gmin, gmax, List.map_append, List.flatMap_append, List.nil_append, List.append_nil, List.append_assoc]; done) | omega | (simp only [List.nil_append, List.length_append, List.length_cons, List.length_nil]; omega) | (simp [ei, eb, es, ec, c133, gmin, gmax]; done) | simp [ei, eb, es, ec, c133, gmin, gmax]) | first | exact rfl | exact Iff.rfl | exact ⟨rfl, rfl⟩ | exact decide_eq_true_iff | (constructor <;> first | exact rfl | (simp only [ei, eb, es, ec, c133, gmin, gmax, List.map_append, List.flatMap_append, List.nil_append, List.append_nil, List.append_assoc]; done) | omega | (simp only [List.nil_append, List.length_append, List.length_cons, List.length_nil]; omega) | (simp [ei, eb, es, ec, c133, gmin, gmax]; done)) | exact rfl | (simp only [ei, eb, es, ec, c133, gmin, gmax, List.map_append, List.flatMap_append, List.nil_append, List.append_nil, List.append_assoc]; done) | omega | (simp only [List.nil_append, List.length_append, List.length_cons, List.length_nil]; omega) | (simp [ei, eb, es, ec, c133, gmin, gmax]; done) | simp [ei, eb, es, ec, c133, gmin, gmax]) : Ob p ∧ q := ⟨⟨h⟩, k⟩
noncomputable def g66 (a0 : (List ByteArray × List Int × Bool)) : Option ((List ByteArray × List Int × Bool)) :=
 if a0.2.2 = true then
  (
   ck (isBytes a0.2.1) <|
   ck ((a0.1.length + 1) * 16 ≤ 140737488355328) <|
   ck (0 ≤ (0 : Int) ∧ (0 : Int) ≤ (0 : Int) ∧ (0 : Int) ≤ ((a0.2.1.length : Nat) : Int)) <|
   some ((a0.1 ++ [strOf a0.2.1]), (a0.2.1.take ((0 : Int).toNat - (0 : Int).toNat)), false)
  )
 else
  (
   ck (0 ≤ (0 : Int) ∧ (0 : Int) ≤ (0 : Int) ∧ (0 : Int) ≤ ((a0.2.1.length : Nat) : Int)) <|
   some (a0.1, (a0.2.1.take ((0 : Int).toNat - (0 : Int).toNat)), false)
  )
noncomputable def k66 : Eng.CS := { f := 66, calm := false, more := 5, ι := (List ByteArray × List Int × Bool) × (List ByteArray × List Int × Bool), ok := fun i => g66 i.1 = some i.2, rds := fun _ => [], args := fun i => [.w (.lp 0 0)], res := fun i => .tup [], L' := fun i => [(0, .cells 101 [.own 3, .own 4, bS i.2.2.2]), (3, .arr 9 1 i.2.1.length (es i.2.1)), (4, .arr 5 1 i.2.2.1.length (ei .u8 i.2.2.1))], rn := [(100000, 0, 9, 1), (100000, 1, 5, 1)], keys := 3, L := fun i => [(0, .cells 101 [.own 1, .own 2, bS i.1.2.2]), (1, .arr 9 1 i.1.1.length (es i.1.1)), (2, .arr 5 1 i.1.2.1.length (ei .u8 i.1.2.1))] }
set_option maxRecDepth 8000 in
set_option maxHeartbeats 4000000 in
theorem k66_ok : CSOk Tryz.prog k66 := by
 refine R.cspec Tryz.func66 nm66 rfl ?_
 rintro ⟨a0, r⟩ hok q _ args hargs
 dsimp only [k66] at hargs ⊢
 match args, hargs with
 | [_], hargs =>
 obtain ⟨rfl, _⟩ := hargs
 refine ⟨envC [] false [], 6, envC_ok (css_nil), ?_⟩
 have H : Gives (g66 a0) (fun a => a = r) := ⟨r, hok, rfl⟩
 unfold g66 at H
 clear hok
 refine if_st H (fun h8 H => ?_) (fun h8 H => ?_)
 ·refine And.intro ⟨by kernel_rfl⟩ ?_
  refine ⟨(Pn.calm 0 (Pn.calm 1 (Pn.calm 2 (Pn.calm 3 (Pn.calm 4 (Pn.calm 5 (Pn.calm 6 (Pn.calm 7 (Pn.calm 8 (Pn.calm 9 (Pn.eff 10 [9, 8, 7, 6, 5] (Pn.eff 11 [4, 10, 3, 9, 2, 8, 1, 7, 6, 5] (Pn.calm 12 (Pn.calm 13 (Pn.eff 14 [13, 11, 0, 1, 2, 3, 4, 5, 6, 7, 8, 9, 10, 12] Pn.done Pn.no))) Pn.no) Pn.no))))))))))), ⟨by kernel_rfl⟩, ?_⟩
  refine ob_str (l := a0.2.1) H fun h9 H => ?_
  refine And.intro ?_ trivial
  refine And.intro ⟨fun _ _ _ h => h⟩ ?_
  refine And.intro ?_ trivial
  refine ob_app (by decide) (by first | exact es_one | ((repeat (refine List.forall_mem_cons.2 ⟨rfl, ?_⟩)); intro y hy; cases hy; done) | (intro y hy; simp [ei, eb, es, ec, c133] at hy; (first | (rcases hy with rfl | hy) | subst hy | skip); all_goals first | rfl | simp_all [Value.oneCell'])) H fun h10 H => ?_
  intro n11 zs13 hn12 hz14
  obtain rfl : n11 = (a0.1 ++ [strOf a0.2.1]).length := hn12.trans (by first | exact List.length_append.symm | (simp; done) | (simp; omega))
  obtain rfl : zs13 = es (a0.1 ++ [strOf a0.2.1]) := by first | exact hz14.trans (es_app (xs := a0.1) (ys := ([strOf a0.2.1]))).symm | (rw [hz14, es_vw]; first | exact es_app.symm | exact (es_app (xs := a0.1)).symm) | (rw [hz14]; simp [ei, eb, es, ec, c133])
  refine And.intro ⟨fun _ _ _ h => h⟩ ?_
  refine And.intro ?_ trivial
  refine And.intro ⟨fun _ _ _ h => h⟩ ?_
  refine ob_ck H fun h15 H => ?_
  try dsimp only at h15
  intro n16 hn17
  subst hn17
  refine And.intro ⟨by first | omega | (dsimp only; omega)⟩ ?_
  intro n18 zs20 hn19 hz21
  obtain rfl : n18 = (a0.2.1.take ((0 : Int).toNat - (0 : Int).toNat)).length := hn19.trans (by rw [List.length_take]; omega)
  obtain rfl : zs20 = ei .u8 (a0.2.1.take ((0 : Int).toNat - (0 : Int).toNat)) := hz21.trans ei_take.symm
  have hfin := fin_st H
  repeat refine mf1ZC1 ?_
  first | exact trivial | exact rfl
 ·refine ob_ck H fun h22 H => ?_
  try dsimp only at h22
  intro n23 hn24
  subst hn24
  refine And.intro ⟨by first | omega | (dsimp only; omega)⟩ ?_
  intro n25 zs27 hn26 hz28
  obtain rfl : n25 = (a0.2.1.take ((0 : Int).toNat - (0 : Int).toNat)).length := hn26.trans (by rw [List.length_take]; omega)
  obtain rfl : zs27 = ei .u8 (a0.2.1.take ((0 : Int).toNat - (0 : Int).toNat)) := hz28.trans ei_take.symm
  have hfin := fin_st H
  repeat refine mf1ZC1 ?_
  first | exact trivial | exact rfl
noncomputable def g65 (a0 : (List ByteArray × List Int × Bool)) (a1 : Int) : Option ((List ByteArray × List Int × Bool)) :=
 (g78 a1).bind fun v41 =>
 if v41 = true then
  (
   (g66 (a0.1, a0.2.1, a0.2.2)).bind fun v44 =>
   (g79 a1).bind fun v46 =>
   ck ((v44.2.1.length + v46.length) * 1 ≤ 140737488355328) <|
   some (v44.1, (v44.2.1 ++ v46), true)
  )
 else
  (
   if ¬ (a0.2.2 = true) then
    some (a0.1, a0.2.1, a0.2.2)
   else
    (
     (g80 a1).bind fun v58 =>
     if ¬ (v58 = true) then
      some (a0.1, a0.2.1, a0.2.2)
     else
      (
       (g79 a1).bind fun v61 =>
       ck (inR .i64 (((a0.2.1.length : Nat) : Int) + ((v61.length : Nat) : Int))) <|
       if (((a0.2.1.length : Nat) : Int) + ((v61.length : Nat) : Int)) ≤ 64 then
        (
         ck ((a0.2.1.length + v61.length) * 1 ≤ 140737488355328) <|
         some (a0.1, (a0.2.1 ++ v61), a0.2.2)
        )
       else
        some (a0.1, a0.2.1, a0.2.2)
      )
    )
  )
noncomputable def k65 : Eng.CS := { f := 65, calm := false, more := 5, ι := (List ByteArray × List Int × Bool) × Int × (List ByteArray × List Int × Bool), ok := fun i => g65 i.1 i.2.1 = some i.2.2, rds := fun _ => [], args := fun i => [.w (.lp 0 0), .w (.v (.int .i32 (i.2.1)))], res := fun i => .tup [], L' := fun i => [(0, .cells 101 [.own 3, .own 4, bS i.2.2.2.2]), (3, .arr 9 1 i.2.2.1.length (es i.2.2.1)), (4, .arr 5 1 i.2.2.2.1.length (ei .u8 i.2.2.2.1))], rn := [(100000, 0, 9, 1), (100000, 1, 5, 1)], keys := 3, L := fun i => [(0, .cells 101 [.own 1, .own 2, bS i.1.2.2]), (1, .arr 9 1 i.1.1.length (es i.1.1)), (2, .arr 5 1 i.1.2.1.length (ei .u8 i.1.2.1))] }
set_option maxRecDepth 8000 in
set_option maxHeartbeats 4000000 in
theorem k65_ok : CSOk Tryz.prog k65 := by
 refine R.cspec Tryz.func65 nm65 rfl ?_
 rintro ⟨a0, a1, r⟩ hok q _ args hargs
 dsimp only [k65] at hargs ⊢
 match args, hargs with
 | [_, _], hargs =>
 obtain ⟨rfl, rfl, _⟩ := hargs
 refine ⟨envC [k66, k78, k79, k80] false [], 6, envC_ok (css_cons ⟨fun h => (by cases h), fun _ => k66_ok⟩ (css_cons ⟨fun _ => k78_ok, fun h => (by cases h)⟩ (css_cons ⟨fun h => (by cases h), fun _ => k79_ok⟩ (css_cons ⟨fun _ => k80_ok, fun h => (by cases h)⟩ (css_nil))))), ?_⟩
 have H : Gives (g65 a0 a1) (fun a => a = r) := ⟨r, hok, rfl⟩
 unfold g65 at H
 clear hok
 obtain ⟨v41, hv42, H⟩ := call_st H
 refine ⟨(a1, v41), ⟨hv42⟩, ⟨trivial⟩, ?_⟩
 refine And.intro ⟨rfl⟩ ?_
 refine if_st H (fun h43 H => ?_) (fun h43 H => ?_)
 ·obtain ⟨v44, hv45, H⟩ := call_st H
  refine ⟨((a0.1, a0.2.1, a0.2.2), v44), ⟨hv45⟩, ⟨trivial⟩, ?_⟩
  refine And.intro ⟨rfl⟩ ?_
  iterate 3 refine mo1ZC1 ?_
  refine And.intro ⟨by kernel_rfl⟩ ?_
  refine ⟨(Pn.calm 0 (Pn.calm 1 (Pn.calm 2 (Pn.calm 3 (Pn.calm 4 (Pn.calm 5 (Pn.eff 6 [5] (Pn.eff 7 [4, 6, 3, 5, 2, 1] (Pn.calm 8 (Pn.calm 9 (Pn.eff 10 [9, 7, 0, 1, 2, 3, 4, 5, 6, 8] Pn.done Pn.no))) Pn.no) Pn.no))))))), ⟨by kernel_rfl⟩, ?_⟩
  refine And.intro ?_ trivial
  obtain ⟨v46, hv47, H⟩ := call_st H
  refine ⟨(a1, v46), ⟨hv47⟩, ⟨trivial⟩, ?_⟩
  refine And.intro ⟨rfl⟩ ?_
  refine And.intro ⟨fun _ _ _ h => h⟩ ?_
  refine And.intro ?_ trivial
  refine ob_app (by decide) (by first | exact ei_one | ((repeat (refine List.forall_mem_cons.2 ⟨rfl, ?_⟩)); intro y hy; cases hy; done) | (intro y hy; simp [ei, eb, es, ec, c133] at hy; (first | (rcases hy with rfl | hy) | subst hy | skip); all_goals first | rfl | simp_all [Value.oneCell'])) H fun h48 H => ?_
  intro n49 zs51 hn50 hz52
  obtain rfl : n49 = (v44.2.1 ++ v46).length := hn50.trans (by first | exact List.length_append.symm | (simp; done) | (simp; omega))
  obtain rfl : zs51 = ei .u8 (v44.2.1 ++ v46) := by first | exact hz52.trans (ei_app (xs := v44.2.1) (ys := v46)).symm | (rw [hz52, ei_vw]; first | exact ei_app.symm | exact (ei_app (xs := v44.2.1)).symm) | (rw [hz52]; simp [ei, eb, es, ec, c133])
  refine And.intro ⟨fun _ _ _ h => h⟩ ?_
  refine And.intro ?_ trivial
  refine And.intro ⟨fun _ _ _ h => h⟩ ?_
  have hfin := fin_st H
  repeat refine mf1ZC1 ?_
  first | exact trivial | exact rfl
 ·refine if_st H (fun h57 H => ?_) (fun h57 H => ?_)
  ·have hfin := fin_st H
   repeat refine mf1ZC1 ?_
   first | exact trivial | exact rfl
  ·obtain ⟨v58, hv59, H⟩ := call_st H
   refine ⟨(a1, v58), ⟨hv59⟩, ⟨trivial⟩, ?_⟩
   refine And.intro ⟨rfl⟩ ?_
   refine if_st H (fun h60 H => ?_) (fun h60 H => ?_)
   ·have hfin := fin_st H
    repeat refine mf1ZC1 ?_
    first | exact trivial | exact rfl
   ·obtain ⟨v61, hv62, H⟩ := call_st H
    refine ⟨(a1, v61), ⟨hv62⟩, ⟨trivial⟩, ?_⟩
    refine And.intro ⟨rfl⟩ ?_
    refine ob_ck H fun h63 H => ?_
    refine if_st H (fun h64 H => ?_) (fun h64 H => ?_)
    ·refine ob_app (by decide) (by first | exact ei_one | ((repeat (refine List.forall_mem_cons.2 ⟨rfl, ?_⟩)); intro y hy; cases hy; done) | (intro y hy; simp [ei, eb, es, ec, c133] at hy; (first | (rcases hy with rfl | hy) | subst hy | skip); all_goals first | rfl | simp_all [Value.oneCell'])) H fun h65 H => ?_
     intro n66 zs68 hn67 hz69
     obtain rfl : n66 = (a0.2.1 ++ v61).length := hn67.trans (by first | exact List.length_append.symm | (simp; done) | (simp; omega))
     obtain rfl : zs68 = ei .u8 (a0.2.1 ++ v61) := by first | exact hz69.trans (ei_app (xs := a0.2.1) (ys := v61)).symm | (rw [hz69, ei_vw]; first | exact ei_app.symm | exact (ei_app (xs := a0.2.1)).symm) | (rw [hz69]; simp [ei, eb, es, ec, c133])
     have hfin := fin_st H
     repeat refine mf1ZC1 ?_
     first | exact trivial | exact rfl
    ·have hfin := fin_st H
     repeat refine mf1ZC1 ?_
     first | exact trivial | exact rfl
noncomputable def g56 (a0 : ByteArray) : Option (List ByteArray) :=
 jn (α := _) (β := List ByteArray × List Int × Bool) (fun k171 =>
   ck (a0.size ≤ 140737488355328) <|
   (loopO (σ := List ByteArray × List Int × Bool × Int) (ρ := List ByteArray × List Int × Bool) (fun s183 =>
     if s183.2.2.2 < (((bytesOf a0).length : Nat) : Int) then
      (
       ck (0 ≤ s183.2.2.2 ∧ s183.2.2.2 ≤ (((bytesOf a0).length : Nat) : Int) ∧ (((bytesOf a0).length : Nat) : Int) ≤ (((bytesOf a0).length : Nat) : Int)) <|
       (g102 (((bytesOf a0).drop s183.2.2.2.toNat).take ((((bytesOf a0).length : Nat) : Int).toNat - s183.2.2.2.toNat))).bind fun v235 =>
       if v235.2.2 = true then
        (
         (g64 65533).bind fun v238 =>
         if v238 = true then
          (
           ck (inR .i64 (s183.2.2.2 + 1)) <|
           some (.go (s183.1, s183.2.1, s183.2.2.1, s183.2.2.2 + 1))
          )
         else
          (
           (g65 (s183.1, s183.2.1, s183.2.2.1) 65533).bind fun v242 =>
           ck (inR .i64 (s183.2.2.2 + 1)) <|
           some (.go (v242.1, v242.2.1, v242.2.2, s183.2.2.2 + 1))
          )
        )
       else
        (
         (g64 v235.1).bind fun v245 =>
         if v245 = true then
          (
           ck (inR .i64 (s183.2.2.2 + v235.2.1)) <|
           some (.go (s183.1, s183.2.1, s183.2.2.1, s183.2.2.2 + v235.2.1))
          )
         else
          (
           (g65 (s183.1, s183.2.1, s183.2.2.1) v235.1).bind fun v249 =>
           ck (inR .i64 (s183.2.2.2 + v235.2.1)) <|
           some (.go (v249.1, v249.2.1, v249.2.2, s183.2.2.2 + v235.2.1))
          )
        )
      )
     else
      some (.out (s183.1, s183.2.1, s183.2.2.1))
    ) ([], [], false, 0)).bind fun o229 =>
    k171 (o229.1, o229.2.1, o229.2.2)
 ) (fun v170 =>
  (g66 (v170.1, v170.2.1, v170.2.2)).bind fun v253 =>
  some v253.1
 )
noncomputable def k56 : Eng.CS := { f := 56, calm := false, more := 1, ι := ByteArray × List ByteArray, ok := fun i => g56 i.1 = some i.2, rds := fun _ => [], args := fun i => [.w (.v (.string (i.1)))], res := fun i => .own 0, L' := fun i => [(0, .arr 9 1 i.2.length (es i.2))], rn := [(0, 0, 9, 1)] }
set_option maxRecDepth 8000 in
set_option maxHeartbeats 4000000 in
theorem k56_ok : CSOk Tryz.prog k56 := by
 refine R.cspec Tryz.func56 nm56 rfl ?_
 rintro ⟨a0, r⟩ hok q _ args hargs
 match args, hargs with
 | [_], hargs =>
 obtain ⟨rfl, _⟩ := hargs
 refine ⟨envC [k64, k65, k66, k102] false [(56, 6)], 6, envC_ok (css_cons ⟨fun _ => k64_ok, fun h => (by cases h)⟩ (css_cons ⟨fun h => (by cases h), fun _ => k65_ok⟩ (css_cons ⟨fun h => (by cases h), fun _ => k66_ok⟩ (css_cons ⟨fun _ => k102_ok, fun h => (by cases h)⟩ (css_nil))))), ?_⟩
 have H : Gives (g56 a0) (fun a => a = r) := ⟨r, hok, rfl⟩
 unfold g56 at H
 clear hok
 refine R.cut_famG H 28 [3] [] [] (fun v170 => []) (fun v170 => [(1, .cells 101 [.own 28, .own 29, bS v170.2.2]), (28, .arr 9 1 (v170.1.length) (es (v170.1))), (29, .arr 5 1 (v170.2.1.length) (ei .u8 (v170.2.1)))]) [] 2 (fun H => ?_)
 refine And.intro ?_ ?_
 ·refine ob_sb H fun h177 H q178 A172 c173 hq174 hc175 hR176 => ?_
  intro n179 hn180
  obtain rfl : n179 = (bytesOf a0).length := hn180.trans (bytesOf_len a0).symm
  refine R.loop_fam (bind_st H) [0, 1] [(100001, 0, 9, 1), (100001, 1, 5, 1)] (fun _ s183 => [(3, .v (.int .i64 (s183.2.2.2)))]) (fun _ s183 => [(1, .cells 101 [.own 18, .own 19, bS s183.2.2.1]), (18, .arr 9 1 (s183.1.length) (es (s183.1))), (19, .arr 5 1 (s183.2.1.length) (ei .u8 (s183.2.1)))]) 2 (fun n252 H => ?_)
  refine ⟨(n252, _), ⟨H⟩, ⟨trivial⟩, ?_⟩
  repeat refine mo1ZC1 ?_
  rintro ⟨m0, s183⟩ H _
  obtain ⟨m184, hm0, H⟩ := IG_succ H
  dsimp only at hm0
  subst hm0
  try dsimp only at H
  refine if_st H (fun h230 H => ?_) (fun h230 H => ?_)
  ·refine ob_sl (Nat.le_trans (Nat.le_of_eq (bytesOf_len a0)) hc175) H fun h231 H => ?_
   have hs232 := sl_ei hR176 rfl (Nat.le_trans (Nat.le_of_eq (bytesOf_len a0)) hc175) h231
   intro n233 hn234
   obtain rfl : n233 = (((bytesOf a0).drop s183.2.2.2.toNat).take ((((bytesOf a0).length : Nat) : Int).toNat - s183.2.2.2.toNat)).length := hn234.trans hs232.2.1.symm
   obtain ⟨v235, hv236, H⟩ := call_st H
   refine ⟨((((bytesOf a0).drop s183.2.2.2.toNat).take ((((bytesOf a0).length : Nat) : Int).toNat - s183.2.2.2.toNat)), v235), ⟨hv236⟩, ⟨trivial⟩, ?_⟩
   refine And.intro ⟨rfl, (Nat.le_trans (Nat.le_of_eq hs232.2.1) hs232.2.2), ei_len.trans ((show _ = _ from rfl).trans (Nat.mul_one _).symm), hs232.1⟩ ?_
   refine if_st H (fun h237 H => ?_) (fun h237 H => ?_)
   ·obtain ⟨v238, hv239, H⟩ := call_st H
    refine ⟨(65533, v238), ⟨hv239⟩, ⟨trivial⟩, ?_⟩
    refine And.intro ⟨rfl⟩ ?_
    refine if_st H (fun h240 H => ?_) (fun h240 H => ?_)
    ·refine ob_ck H fun h241 H => ?_
     replace H := some_st H
     refine ⟨(m184, (s183.1, s183.2.1, s183.2.2.1, s183.2.2.2 + 1)), ⟨H, Nat.lt_succ_self _⟩, ⟨trivial⟩, ⟨rfl⟩, ?_⟩
     repeat refine mo1ZC1 ?_
     first | exact trivial | exact rfl
    ·obtain ⟨v242, hv243, H⟩ := call_st H
     refine ⟨((s183.1, s183.2.1, s183.2.2.1), 65533, v242), ⟨hv243⟩, ⟨trivial⟩, ?_⟩
     iterate 2 refine And.intro ⟨rfl⟩ ?_
     iterate 3 refine mo1ZC1 ?_
     refine ob_ck H fun h244 H => ?_
     replace H := some_st H
     refine ⟨(m184, (v242.1, v242.2.1, v242.2.2, s183.2.2.2 + 1)), ⟨H, Nat.lt_succ_self _⟩, ⟨trivial⟩, ⟨rfl⟩, ?_⟩
     repeat refine mo1ZC1 ?_
     first | exact trivial | exact rfl
   ·obtain ⟨v245, hv246, H⟩ := call_st H
    refine ⟨(v235.1, v245), ⟨hv246⟩, ⟨trivial⟩, ?_⟩
    refine And.intro ⟨rfl⟩ ?_
    refine if_st H (fun h247 H => ?_) (fun h247 H => ?_)
    ·refine ob_ck H fun h248 H => ?_
     replace H := some_st H
     refine ⟨(m184, (s183.1, s183.2.1, s183.2.2.1, s183.2.2.2 + v235.2.1)), ⟨H, Nat.lt_succ_self _⟩, ⟨trivial⟩, ⟨rfl⟩, ?_⟩
     repeat refine mo1ZC1 ?_
     first | exact trivial | exact rfl
    ·obtain ⟨v249, hv250, H⟩ := call_st H
     refine ⟨((s183.1, s183.2.1, s183.2.2.1), v235.1, v249), ⟨hv250⟩, ⟨trivial⟩, ?_⟩
     iterate 2 refine And.intro ⟨rfl⟩ ?_
     iterate 3 refine mo1ZC1 ?_
     refine ob_ck H fun h251 H => ?_
     replace H := some_st H
     refine ⟨(m184, (v249.1, v249.2.1, v249.2.2, s183.2.2.2 + v235.2.1)), ⟨H, Nat.lt_succ_self _⟩, ⟨trivial⟩, ⟨rfl⟩, ?_⟩
     repeat refine mo1ZC1 ?_
     first | exact trivial | exact rfl
  ·replace H := some_st H
   dsimp only [stp, sm] at H
   refine ⟨(s183.1, s183.2.1, s183.2.2.1), ⟨H⟩, ⟨fun _ _ _ h => (hq174 _ _ _ h)⟩, ?_⟩
   repeat refine mo1ZC1 ?_
   first | exact trivial | exact rfl
 ·intro q169 hq168 v170 H
  obtain ⟨v253, hv254, H⟩ := call_st H
  refine ⟨((v170.1, v170.2.1, v170.2.2), v253), ⟨hv254⟩, ⟨trivial⟩, ?_⟩
  refine And.intro ⟨rfl⟩ ?_
  iterate 3 refine mo1ZC1 ?_
  have hfin := fin_st H
  repeat refine mf1ZC1 ?_
  first | exact trivial | exact rfl
noncomputable def g40 (a0 : ByteArray) : Option (Bool) :=
 (g56 a0).bind fun v255 =>
 if ((v255.length : Nat) : Int) = 1 then
  (
   ck (0 ≤ (0 : Int) ∧ 0 < ((v255.length : Nat) : Int)) <|
   some (decide ((v255.getD (0 : Int).toNat default).data.toList = a0.data.toList))
  )
 else
  some false
noncomputable def k40 : Eng.CS := { f := 40, calm := true, more := 0, ι := ByteArray × Bool, ok := fun i => g40 i.1 = some i.2, rds := fun _ => [], args := fun i => [.w (.v (.string (i.1)))], res := fun i => bS i.2 }
set_option maxRecDepth 8000 in
set_option maxHeartbeats 4000000 in
theorem k40_ok : CalmOk Tryz.prog k40 := by
 refine R.calmspec Tryz.func40 nm40 rfl ?_
 rintro ⟨a0, r⟩ hok q _ args hargs
 match args, hargs with
 | [_], hargs =>
 obtain ⟨rfl, _⟩ := hargs
 refine ⟨envC [k56] false [], 6, envC_ok (css_cons ⟨fun h => (by cases h), fun _ => k56_ok⟩ (css_nil)), rfl, (by intro x hx; simp only [List.mem_cons, List.not_mem_nil, or_false] at hx; rcases hx with rfl <;> rfl), ?_⟩
 have H : Gives (g40 a0) (fun a => a = r) := ⟨r, hok, rfl⟩
 unfold g40 at H
 clear hok
 obtain ⟨v255, hv256, H⟩ := call_st H
 refine ⟨(a0, v255), ⟨hv256⟩, ⟨trivial⟩, ?_⟩
 refine And.intro ⟨rfl⟩ ?_
 refine if_st H (fun h257 H => ?_) (fun h257 H => ?_)
 ·refine ob_ck H fun h258 H => ?_
  refine ld_str (e := v255.getD (0 : Int).toNat default) (own_get (ys := es v255) (by first | rfl | simp [ei, eb, es, ec, c133]) (es_get (l := v255) (by first | exact tn h258 | (have := tn h258; simp at this ⊢; omega) | (have := tn h258; simp; omega)))) ?_
  have hfin := fin_st H
  repeat refine mf1ZC1 ?_
  first | exact trivial | exact rfl
 ·have hfin := fin_st H
  repeat refine mf1ZC1 ?_
  first | exact trivial | exact rfl
end Go.Proofs.YtenjkphlbdhaiaaGreat
end
section
namespace Go.Proofs.YtenjkphlbdhaiaaGreat
open Go Go.Eng
theorem mf1ZG1 {p q : Prop} (k : q) (h : p := by first | (rw [← hfin] <;> first | exact rfl | exact Iff.rfl | exact ⟨rfl, rfl⟩ | exact decide_eq_true_iff | (constructor <;> first | exact rfl | (simp only [ei, eb, es, ec, gmin, gmax, List.map_append, List.flatMap_append, List.nil_append, List.append_nil, List.append_assoc]; done) | omega | (simp only [List.nil_append, List.length_append, List.length_cons, List.length_nil]; omega) | (simp [ei, eb, es, ec, gmin, gmax]; done)) | exact rfl | (simp only [ei, eb, es, ec, gmin, gmax, List.map_append, List.flatMap_append, List.nil_append, List.append_nil, List.append_assoc]; done) | omega | (simp only [List.nil_append, List.length_append, List.length_cons, List.length_nil]; omega) | (simp [ei, eb, es, ec, gmin, gmax]; done) | simp [ei, eb, es, ec, gmin, gmax]) | first | exact rfl | exact Iff.rfl | exact ⟨rfl, rfl⟩ | exact decide_eq_true_iff | (constructor <;> first | exact rfl | (simp only [ei, eb, es, ec, gmin, gmax, List.map_append, List.flatMap_append, List.nil_append, List.append_nil, List.append_assoc]; done) | omega | (simp only [List.nil_append, List.length_append, List.length_cons, List.length_nil]; omega) | (simp [ei, eb, es, ec, gmin, gmax]; done)) | exact rfl | (simp only [ei, eb, es, ec, gmin, gmax, List.map_append, List.flatMap_append, List.nil_append, List.append_nil, List.append_assoc]; done) | omega | (simp only [List.nil_append, List.length_append, List.length_cons, List.length_nil]; omega) | (simp [ei, eb, es, ec, gmin, gmax]; done) | simp [ei, eb, es, ec, gmin, gmax]) : Ob p ∧ q := ⟨⟨h⟩, k⟩
noncomputable def g39 (a0 : (Int × List ByteArray × Int × Int)) : Option (Bool) :=
 some (decide (0 < a0.1))
noncomputable def k39 : Eng.CS := { f := 39, calm := true, more := 0, ι := (Int × List ByteArray × Int × Int) × Bool, ok := fun i => g39 i.1 = some i.2, rds := fun _ => [], args := fun i => [.pt [.w (.int .i64 i.1.1), .row 1 i.1.2.1.length (es i.1.2.1), .w (.int .i64 i.1.2.2.1), .w (.int .i64 i.1.2.2.2)]], res := fun i => bS i.2 }
set_option maxRecDepth 8000 in
set_option maxHeartbeats 4000000 in
theorem k39_ok : CalmOk Tryz.prog k39 := by
 refine R.calmspec Tryz.func39 nm39 rfl ?_
 rintro ⟨a0, r⟩ hok q _ args hargs
 dsimp only [k39] at hargs ⊢
 match args, hargs with
 | [_], hargs =>
 obtain ⟨⟨P0, us0, rfl, hs0, _, hR0, hpc0⟩, _⟩ := hargs
 match us0, hR0, hpc0 with
 | [_, _, _, _], hR0, hpc0 =>
 obtain ⟨rfl, ⟨A0_1, c0_1, rfl, hcr0_1, _, hRr0_1⟩, rfl, rfl, _⟩ := hpc0
 refine ⟨envC [] false [], 6, envC_ok (css_nil), rfl, (by intro x hx; simp only [List.mem_cons, List.not_mem_nil, or_false] at hx; rcases hx with rfl <;> rfl), ?_⟩
 have H : Gives (g39 a0) (fun a => a = r) := ⟨r, hok, rfl⟩
 unfold g39 at H
 clear hok
 refine ob_nc ?_
 refine ld_int (e := a0.1) (rd_get hR0 rfl) ?_
 have hfin := fin_st H
 repeat refine mf1ZG1 ?_
 first | exact trivial | exact rfl
noncomputable def g41 (a0 : (Int × List ByteArray × Int × Int)) : Option (Int) :=
 ck (inR .i64 (a0.2.2.2 - a0.2.2.1)) <|
 ck (inR .i64 (((a0.2.1.length : Nat) : Int) - (a0.2.2.2 - a0.2.2.1))) <|
 some (((a0.2.1.length : Nat) : Int) - (a0.2.2.2 - a0.2.2.1))
noncomputable def k41 : Eng.CS := { f := 41, calm := true, more := 0, ι := (Int × List ByteArray × Int × Int) × Int, ok := fun i => g41 i.1 = some i.2, rds := fun _ => [], args := fun i => [.pt [.w (.int .i64 i.1.1), .row 1 i.1.2.1.length (es i.1.2.1), .w (.int .i64 i.1.2.2.1), .w (.int .i64 i.1.2.2.2)]], res := fun i => .v (.int .i64 (i.2)) }
set_option maxRecDepth 8000 in
set_option maxHeartbeats 4000000 in
theorem k41_ok : CalmOk Tryz.prog k41 := by
 refine R.calmspec Tryz.func41 nm41 rfl ?_
 rintro ⟨a0, r⟩ hok q _ args hargs
 dsimp only [k41] at hargs ⊢
 match args, hargs with
 | [_], hargs =>
 obtain ⟨⟨P0, us0, rfl, hs0, _, hR0, hpc0⟩, _⟩ := hargs
 match us0, hR0, hpc0 with
 | [_, _, _, _], hR0, hpc0 =>
 obtain ⟨rfl, ⟨A0_1, c0_1, rfl, hcr0_1, _, hRr0_1⟩, rfl, rfl, _⟩ := hpc0
 refine ⟨envC [] false [], 6, envC_ok (css_nil), rfl, (by intro x hx; simp only [List.mem_cons, List.not_mem_nil, or_false] at hx; rcases hx with rfl <;> rfl), ?_⟩
 have H : Gives (g41 a0) (fun a => a = r) := ⟨r, hok, rfl⟩
 unfold g41 at H
 clear hok
 refine And.intro ⟨by kernel_rfl⟩ ?_
 refine ob_nc ?_
 refine ld_sl (A := A0_1) (n := a0.2.1.length) (c := c0_1) (rd_get hR0 rfl) ?_
 refine ob_nc ?_
 refine ld_int (e := a0.2.2.2) (rd_get hR0 rfl) ?_
 refine ob_nc ?_
 refine ld_int (e := a0.2.2.1) (rd_get hR0 rfl) ?_
 refine ob_ck H fun h1 H => ?_
 refine ob_ck H fun h2 H => ?_
 have hfin := fin_st H
 repeat refine mf1ZG1 ?_
 first | exact trivial | exact rfl
noncomputable def g43 (a0 : (Int × List ByteArray × Int × Int)) (a1 : Int) : Option (Int) :=
 (g41 a0).bind fun v3 =>
 some (gmax 0 (gmin a1 v3))
noncomputable def k43 : Eng.CS := { f := 43, calm := true, more := 0, ι := (Int × List ByteArray × Int × Int) × Int × Int, ok := fun i => g43 i.1 i.2.1 = some i.2.2, rds := fun _ => [], args := fun i => [.pt [.w (.int .i64 i.1.1), .row 1 i.1.2.1.length (es i.1.2.1), .w (.int .i64 i.1.2.2.1), .w (.int .i64 i.1.2.2.2)], .w (.v (.int .i64 (i.2.1)))], res := fun i => .v (.int .i64 (i.2.2)) }
set_option maxRecDepth 8000 in
set_option maxHeartbeats 4000000 in
theorem k43_ok : CalmOk Tryz.prog k43 := by
 refine R.calmspec Tryz.func43 nm43 rfl ?_
 rintro ⟨a0, a1, r⟩ hok q _ args hargs
 dsimp only [k43] at hargs ⊢
 match args, hargs with
 | [_, _], hargs =>
 obtain ⟨⟨P0, us0, rfl, hs0, _, hR0, hpc0⟩, rfl, _⟩ := hargs
 match us0, hR0, hpc0 with
 | [_, _, _, _], hR0, hpc0 =>
 obtain ⟨rfl, ⟨A0_1, c0_1, rfl, hcr0_1, _, hRr0_1⟩, rfl, rfl, _⟩ := hpc0
 refine ⟨envC [k41] false [], 6, envC_ok (css_cons ⟨fun _ => k41_ok, fun h => (by cases h)⟩ (css_nil)), rfl, (by intro x hx; simp only [List.mem_cons, List.not_mem_nil, or_false] at hx; rcases hx with rfl | rfl <;> rfl), ?_⟩
 have H : Gives (g43 a0 a1) (fun a => a = r) := ⟨r, hok, rfl⟩
 unfold g43 at H
 clear hok
 obtain ⟨v3, hv4, H⟩ := call_st H
 refine ⟨(a0, v3), ⟨hv4⟩, ⟨trivial⟩, ?_⟩
 refine And.intro ⟨hs0, _, rfl, hR0, rfl, ⟨_, _, rfl, hcr0_1, es_len.trans (Nat.mul_one _).symm, hRr0_1⟩, rfl, rfl, trivial⟩ ?_
 have hfin := fin_st H
 repeat refine mf1ZG1 ?_
 first | exact trivial | exact rfl
noncomputable def g14 (a0 : (Int × List ByteArray × Int × Int)) : Option (Int) :=
 (g39 a0).bind fun v8 =>
 if ¬ (v8 = true) then
  some 0
 else
  some a0.2.2.1
noncomputable def k14 : Eng.CS := { f := 14, calm := true, more := 0, ι := (Int × List ByteArray × Int × Int) × Int, ok := fun i => g14 i.1 = some i.2, rds := fun _ => [], args := fun i => [.pt [.w (.int .i64 i.1.1), .row 1 i.1.2.1.length (es i.1.2.1), .w (.int .i64 i.1.2.2.1), .w (.int .i64 i.1.2.2.2)]], res := fun i => .v (.int .i64 (i.2)) }
set_option maxRecDepth 8000 in
set_option maxHeartbeats 4000000 in
theorem k14_ok : CalmOk Tryz.prog k14 := by
 refine R.calmspec Tryz.func14 nm14 rfl ?_
 rintro ⟨a0, r⟩ hok q _ args hargs
 dsimp only [k14] at hargs ⊢
 match args, hargs with
 | [_], hargs =>
 obtain ⟨⟨P0, us0, rfl, hs0, _, hR0, hpc0⟩, _⟩ := hargs
 match us0, hR0, hpc0 with
 | [_, _, _, _], hR0, hpc0 =>
 obtain ⟨rfl, ⟨A0_1, c0_1, rfl, hcr0_1, _, hRr0_1⟩, rfl, rfl, _⟩ := hpc0
 refine ⟨envC [k39] false [], 6, envC_ok (css_cons ⟨fun _ => k39_ok, fun h => (by cases h)⟩ (css_nil)), rfl, (by intro x hx; simp only [List.mem_cons, List.not_mem_nil, or_false] at hx; rcases hx with rfl <;> rfl), ?_⟩
 have H : Gives (g14 a0) (fun a => a = r) := ⟨r, hok, rfl⟩
 unfold g14 at H
 clear hok
 obtain ⟨v8, hv9, H⟩ := call_st H
 refine ⟨(a0, v8), ⟨hv9⟩, ⟨trivial⟩, ?_⟩
 refine And.intro ⟨hs0, _, rfl, hR0, rfl, ⟨_, _, rfl, hcr0_1, es_len.trans (Nat.mul_one _).symm, hRr0_1⟩, rfl, rfl, trivial⟩ ?_
 refine if_st H (fun h10 H => ?_) (fun h10 H => ?_)
 ·have hfin := fin_st H
  repeat refine mf1ZG1 ?_
  first | exact trivial | exact rfl
 ·refine ob_nc ?_
  refine ld_int (e := a0.2.2.1) (rd_get hR0 rfl) ?_
  have hfin := fin_st H
  repeat refine mf1ZG1 ?_
  first | exact trivial | exact rfl
noncomputable def g38 (a0 : (Int × List ByteArray × Int × Int)) : Option (Int) :=
 (g39 a0).bind fun v14 =>
 if ¬ (v14 = true) then
  some 0
 else
  (
   (g41 a0).bind fun v17 =>
   ck (inR .i64 (a0.1 - v17)) <|
   some (a0.1 - v17)
  )
noncomputable def k38 : Eng.CS := { f := 38, calm := true, more := 0, ι := (Int × List ByteArray × Int × Int) × Int, ok := fun i => g38 i.1 = some i.2, rds := fun _ => [], args := fun i => [.pt [.w (.int .i64 i.1.1), .row 1 i.1.2.1.length (es i.1.2.1), .w (.int .i64 i.1.2.2.1), .w (.int .i64 i.1.2.2.2)]], res := fun i => .v (.int .i64 (i.2)) }
set_option maxRecDepth 8000 in
set_option maxHeartbeats 4000000 in
theorem k38_ok : CalmOk Tryz.prog k38 := by
 refine R.calmspec Tryz.func38 nm38 rfl ?_
 rintro ⟨a0, r⟩ hok q _ args hargs
 dsimp only [k38] at hargs ⊢
 match args, hargs with
 | [_], hargs =>
 obtain ⟨⟨P0, us0, rfl, hs0, _, hR0, hpc0⟩, _⟩ := hargs
 match us0, hR0, hpc0 with
 | [_, _, _, _], hR0, hpc0 =>
 obtain ⟨rfl, ⟨A0_1, c0_1, rfl, hcr0_1, _, hRr0_1⟩, rfl, rfl, _⟩ := hpc0
 refine ⟨envC [k39, k41] false [], 6, envC_ok (css_cons ⟨fun _ => k39_ok, fun h => (by cases h)⟩ (css_cons ⟨fun _ => k41_ok, fun h => (by cases h)⟩ (css_nil))), rfl, (by intro x hx; simp only [List.mem_cons, List.not_mem_nil, or_false] at hx; rcases hx with rfl <;> rfl), ?_⟩
 have H : Gives (g38 a0) (fun a => a = r) := ⟨r, hok, rfl⟩
 unfold g38 at H
 clear hok
 obtain ⟨v14, hv15, H⟩ := call_st H
 refine ⟨(a0, v14), ⟨hv15⟩, ⟨trivial⟩, ?_⟩
 refine And.intro ⟨hs0, _, rfl, hR0, rfl, ⟨_, _, rfl, hcr0_1, es_len.trans (Nat.mul_one _).symm, hRr0_1⟩, rfl, rfl, trivial⟩ ?_
 refine if_st H (fun h16 H => ?_) (fun h16 H => ?_)
 ·have hfin := fin_st H
  repeat refine mf1ZG1 ?_
  first | exact trivial | exact rfl
 ·refine And.intro ⟨by kernel_rfl⟩ ?_
  refine ob_nc ?_
  refine ld_int (e := a0.1) (rd_get hR0 rfl) ?_
  obtain ⟨v17, hv18, H⟩ := call_st H
  refine ⟨(a0, v17), ⟨hv18⟩, ⟨trivial⟩, ?_⟩
  refine And.intro ⟨hs0, _, rfl, hR0, rfl, ⟨_, _, rfl, hcr0_1, es_len.trans (Nat.mul_one _).symm, hRr0_1⟩, rfl, rfl, trivial⟩ ?_
  refine ob_ck H fun h19 H => ?_
  have hfin := fin_st H
  repeat refine mf1ZG1 ?_
  first | exact trivial | exact rfl
noncomputable def g16 (a0 : (Int × List ByteArray × Int × Int)) : Option (Int) :=
 (g39 a0).bind fun v23 =>
 if ¬ (v23 = true) then
  some 0
 else
  (
   (g41 a0).bind fun v26 =>
   some v26
  )
noncomputable def k16 : Eng.CS := { f := 16, calm := true, more := 0, ι := (Int × List ByteArray × Int × Int) × Int, ok := fun i => g16 i.1 = some i.2, rds := fun _ => [], args := fun i => [.pt [.w (.int .i64 i.1.1), .row 1 i.1.2.1.length (es i.1.2.1), .w (.int .i64 i.1.2.2.1), .w (.int .i64 i.1.2.2.2)]], res := fun i => .v (.int .i64 (i.2)) }
set_option maxRecDepth 8000 in
set_option maxHeartbeats 4000000 in
theorem k16_ok : CalmOk Tryz.prog k16 := by
 refine R.calmspec Tryz.func16 nm16 rfl ?_
 rintro ⟨a0, r⟩ hok q _ args hargs
 dsimp only [k16] at hargs ⊢
 match args, hargs with
 | [_], hargs =>
 obtain ⟨⟨P0, us0, rfl, hs0, _, hR0, hpc0⟩, _⟩ := hargs
 match us0, hR0, hpc0 with
 | [_, _, _, _], hR0, hpc0 =>
 obtain ⟨rfl, ⟨A0_1, c0_1, rfl, hcr0_1, _, hRr0_1⟩, rfl, rfl, _⟩ := hpc0
 refine ⟨envC [k39, k41] false [], 6, envC_ok (css_cons ⟨fun _ => k39_ok, fun h => (by cases h)⟩ (css_cons ⟨fun _ => k41_ok, fun h => (by cases h)⟩ (css_nil))), rfl, (by intro x hx; simp only [List.mem_cons, List.not_mem_nil, or_false] at hx; rcases hx with rfl <;> rfl), ?_⟩
 have H : Gives (g16 a0) (fun a => a = r) := ⟨r, hok, rfl⟩
 unfold g16 at H
 clear hok
 obtain ⟨v23, hv24, H⟩ := call_st H
 refine ⟨(a0, v23), ⟨hv24⟩, ⟨trivial⟩, ?_⟩
 refine And.intro ⟨hs0, _, rfl, hR0, rfl, ⟨_, _, rfl, hcr0_1, es_len.trans (Nat.mul_one _).symm, hRr0_1⟩, rfl, rfl, trivial⟩ ?_
 refine if_st H (fun h25 H => ?_) (fun h25 H => ?_)
 ·have hfin := fin_st H
  repeat refine mf1ZG1 ?_
  first | exact trivial | exact rfl
 ·obtain ⟨v26, hv27, H⟩ := call_st H
  refine ⟨(a0, v26), ⟨hv27⟩, ⟨trivial⟩, ?_⟩
  refine And.intro ⟨hs0, _, rfl, hR0, rfl, ⟨_, _, rfl, hcr0_1, es_len.trans (Nat.mul_one _).symm, hRr0_1⟩, rfl, rfl, trivial⟩ ?_
  have hfin := fin_st H
  repeat refine mf1ZG1 ?_
  first | exact trivial | exact rfl
end Go.Proofs.YtenjkphlbdhaiaaGreat
end
section
namespace Go.Proofs.YtenjkphlbdhaiaaGreat
open Go Go.Eng
theorem mo1ZG2 {p q : Prop} (k : q) (h : p := by first | exact rfl | exact Iff.rfl | exact ⟨rfl, rfl⟩ | exact decide_eq_true_iff | (constructor <;> first | exact rfl | (simp only [ei, eb, es, ec, gmin, gmax, List.map_append, List.flatMap_append, List.nil_append, List.append_nil, List.append_assoc]; done) | omega | (simp only [List.nil_append, List.length_append, List.length_cons, List.length_nil]; omega) | (simp [ei, eb, es, ec, gmin, gmax]; done)) | exact rfl | (simp only [ei, eb, es, ec, gmin, gmax, List.map_append, List.flatMap_append, List.nil_append, List.append_nil, List.append_assoc]; done) | omega | (simp only [List.nil_append, List.length_append, List.length_cons, List.length_nil]; omega) | (simp [ei, eb, es, ec, gmin, gmax]; done) | simp [ei, eb, es, ec, gmin, gmax]) : Ob p ∧ q := ⟨⟨h⟩, k⟩
theorem mf1ZG2 {p q : Prop} (k : q) (h : p := by first | (rw [← hfin] <;> first | exact rfl | exact Iff.rfl | exact ⟨rfl, rfl⟩ | exact decide_eq_true_iff | (constructor <;> first | exact rfl | (simp only [ei, eb, es, ec, gmin, gmax, List.map_append, List.flatMap_append, List.nil_append, List.append_nil, List.append_assoc]; done) | omega | (simp only [List.nil_append, List.length_append, List.length_cons, List.length_nil]; omega) | (simp [ei, eb, es, ec, gmin, gmax]; done)) | exact rfl | (simp only [ei, eb, es, ec, gmin, gmax, List.map_append, List.flatMap_append, List.nil_append, List.append_nil, List.append_assoc]; done) | omega | (simp only [List.nil_append, List.length_append, List.length_cons, List.length_nil]; omega) | (simp [ei, eb, es, ec, gmin, gmax]; done) | simp [ei, eb, es, ec, gmin, gmax]) | first | exact rfl | exact Iff.rfl | exact ⟨rfl, rfl⟩ | exact decide_eq_true_iff | (constructor <;> first | exact rfl | (simp only [ei, eb, es, ec, gmin, gmax, List.map_append, List.flatMap_append, List.nil_append, List.append_nil, List.append_assoc]; done) | omega | (simp only [List.nil_append, List.length_append, List.length_cons, List.length_nil]; omega) | (simp [ei, eb, es, ec, gmin, gmax]; done)) | exact rfl | (simp only [ei, eb, es, ec, gmin, gmax, List.map_append, List.flatMap_append, List.nil_append, List.append_nil, List.append_assoc]; done) | omega | (simp only [List.nil_append, List.length_append, List.length_cons, List.length_nil]; omega) | (simp [ei, eb, es, ec, gmin, gmax]; done) | simp [ei, eb, es, ec, gmin, gmax]) : Ob p ∧ q := ⟨⟨h⟩, k⟩
noncomputable def g34 (a0 : (Int × List ByteArray × Int × Int)) : Option (List ByteArray) :=
 (g39 a0).bind fun v4 =>
 if ¬ (v4 = true) then
  some ([] : List ByteArray)
 else
  (
   (g41 a0).bind fun v7 =>
   ck (0 ≤ v7 ∧ v7 ≤ v7 ∧ v7 ≤ 9223372036854775807 ∧ v7 * ((16 : Nat) : Int) ≤ 140737488355328) <|
   ck (0 ≤ (0 : Int) ∧ (0 : Int) ≤ a0.2.2.1 ∧ a0.2.2.1 ≤ ((a0.2.1.length : Nat) : Int)) <|
   ck (0 ≤ (((min (((a0.2.1.drop (0 : Int).toNat).take (a0.2.2.1.toNat - (0 : Int).toNat)).length) v7.toNat) : Nat) : Int) ∧ (((min (((a0.2.1.drop (0 : Int).toNat).take (a0.2.2.1.toNat - (0 : Int).toNat)).length) v7.toNat) : Nat) : Int) ≤ ((v7.toNat : Nat) : Int) ∧ ((v7.toNat : Nat) : Int) ≤ ((v7.toNat : Nat) : Int)) <|
   ck (0 ≤ a0.2.2.2 ∧ a0.2.2.2 ≤ ((a0.2.1.length : Nat) : Int) ∧ ((a0.2.1.length : Nat) : Int) ≤ ((a0.2.1.length : Nat) : Int)) <|
   some (cpy (cpy (List.replicate v7.toNat (⟨#[]⟩ : ByteArray)) 0 ((a0.2.1.drop (0 : Int).toNat).take (a0.2.2.1.toNat - (0 : Int).toNat)) (min (((a0.2.1.drop (0 : Int).toNat).take (a0.2.2.1.toNat - (0 : Int).toNat)).length) v7.toNat)) ((((min (((a0.2.1.drop (0 : Int).toNat).take (a0.2.2.1.toNat - (0 : Int).toNat)).length) v7.toNat) : Nat) : Int).toNat) ((a0.2.1.drop a0.2.2.2.toNat).take (((a0.2.1.length : Nat) : Int).toNat - a0.2.2.2.toNat)) (min (((a0.2.1.drop a0.2.2.2.toNat).take (((a0.2.1.length : Nat) : Int).toNat - a0.2.2.2.toNat)).length) (((v7.toNat : Nat) : Int).toNat - (((min (((a0.2.1.drop (0 : Int).toNat).take (a0.2.2.1.toNat - (0 : Int).toNat)).length) v7.toNat) : Nat) : Int).toNat)))
  )
noncomputable def k34 : Eng.CS := { f := 34, calm := false, more := 1, ι := (Int × List ByteArray × Int × Int) × List ByteArray, ok := fun i => g34 i.1 = some i.2, rds := fun _ => [], args := fun i => [.pt [.w (.int .i64 i.1.1), .row 1 i.1.2.1.length (es i.1.2.1), .w (.int .i64 i.1.2.2.1), .w (.int .i64 i.1.2.2.2)]], res := fun i => .own 0, L' := fun i => [(0, .arr 9 1 i.2.length (es i.2))], rn := [(0, 0, 9, 1)] }
set_option maxRecDepth 8000 in
set_option maxHeartbeats 4000000 in
theorem k34_ok : CSOk Tryz.prog k34 := by
 refine R.cspec Tryz.func34 nm34 rfl ?_
 rintro ⟨a0, r⟩ hok q _ args hargs
 dsimp only [k34] at hargs ⊢
 match args, hargs with
 | [_], hargs =>
 obtain ⟨⟨P0, us0, rfl, hs0, _, hR0, hpc0⟩, _⟩ := hargs
 match us0, hR0, hpc0 with
 | [_, _, _, _], hR0, hpc0 =>
 obtain ⟨rfl, ⟨A0_1, c0_1, rfl, hcr0_1, _, hRr0_1⟩, rfl, rfl, _⟩ := hpc0
 refine ⟨envC [k39, k41] false [], 6, envC_ok (css_cons ⟨fun _ => k39_ok, fun h => (by cases h)⟩ (css_cons ⟨fun _ => k41_ok, fun h => (by cases h)⟩ (css_nil))), ?_⟩
 have H : Gives (g34 a0) (fun a => a = r) := ⟨r, hok, rfl⟩
 unfold g34 at H
 clear hok
 obtain ⟨v4, hv5, H⟩ := call_st H
 refine ⟨(a0, v4), ⟨hv5⟩, ⟨trivial⟩, ?_⟩
 refine And.intro ⟨hs0, _, rfl, hR0, rfl, ⟨_, _, rfl, hcr0_1, es_len.trans (Nat.mul_one _).symm, hRr0_1⟩, rfl, rfl, trivial⟩ ?_
 refine if_st H (fun h6 H => ?_) (fun h6 H => ?_)
 ·have hfin := fin_st H
  repeat refine mf1ZG2 ?_
  first | exact trivial | exact rfl
 ·obtain ⟨v7, hv8, H⟩ := call_st H
  refine ⟨(a0, v7), ⟨hv8⟩, ⟨trivial⟩, ?_⟩
  refine And.intro ⟨hs0, _, rfl, hR0, rfl, ⟨_, _, rfl, hcr0_1, es_len.trans (Nat.mul_one _).symm, hRr0_1⟩, rfl, rfl, trivial⟩ ?_
  refine ob_ck H fun h14 H => ?_
  intro n9 zs11 hn10 hz12
  subst hn10
  have hl13 : (List.replicate v7.toNat (⟨#[]⟩ : ByteArray)).length = v7.toNat := List.length_replicate
  obtain rfl : zs11 = es (List.replicate v7.toNat (⟨#[]⟩ : ByteArray)) := hz12.trans es_rep.symm
  refine And.intro ⟨by kernel_rfl⟩ ?_
  refine ⟨(Pn.calm 0 (Pn.calm 1 (Pn.calm 2 (Pn.calm 3 (Pn.calm 4 (Pn.calm 5 (Pn.calm 6 (Pn.calm 7 (Pn.calm 8 (Pn.calm 9 (Pn.eff 10 [0, 9, 4, 8, 3, 7, 2, 6, 1, 5] (Pn.calm 11 Pn.done) Pn.no))))))))))), ⟨by kernel_rfl⟩, ?_⟩
  refine ob_nc ?_
  refine ld_sl (A := A0_1) (n := a0.2.1.length) (c := c0_1) (rd_get hR0 rfl) ?_
  refine ob_nc ?_
  refine ld_int (e := a0.2.2.1) (rd_get hR0 rfl) ?_
  refine ob_sl hcr0_1 H fun h15 H => ?_
  have hs16 := sl_es hRr0_1 rfl hcr0_1 h15
  intro n17 hn18
  obtain rfl : n17 = ((a0.2.1.drop (0 : Int).toNat).take (a0.2.2.1.toNat - (0 : Int).toNat)).length := hn18.trans hs16.2.1.symm
  refine And.intro ?_ trivial
  refine rs_st hs16.1 (es_len.trans (Nat.mul_one _).symm) ?_
  refine And.intro ⟨es_one⟩ ?_
  intro r19 n21 zs23 hr20 hn22 hz24
  subst hr20
  subst hn22
  have hl25 : (cpy (List.replicate v7.toNat (⟨#[]⟩ : ByteArray)) 0 ((a0.2.1.drop (0 : Int).toNat).take (a0.2.2.1.toNat - (0 : Int).toNat)) (min (((a0.2.1.drop (0 : Int).toNat).take (a0.2.2.1.toNat - (0 : Int).toNat)).length) v7.toNat)).length = (List.replicate v7.toNat (⟨#[]⟩ : ByteArray)).length := len_cpy (by first | omega | (dsimp only; omega)) (by first | omega | (rw [len_vw (by omega)]; omega) | (dsimp only; rw [len_vw (by omega)]; omega))
  obtain rfl : zs23 = es (cpy (List.replicate v7.toNat (⟨#[]⟩ : ByteArray)) 0 ((a0.2.1.drop (0 : Int).toNat).take (a0.2.2.1.toNat - (0 : Int).toNat)) (min (((a0.2.1.drop (0 : Int).toNat).take (a0.2.2.1.toNat - (0 : Int).toNat)).length) v7.toNat)) := hz24.trans es_cpy0.symm
  refine And.intro ⟨fun _ _ _ h => h⟩ ?_
  refine And.intro ⟨by kernel_rfl⟩ ?_
  refine ⟨(Pn.calm 0 (Pn.calm 1 (Pn.calm 2 (Pn.calm 3 (Pn.calm 4 (Pn.calm 5 (Pn.calm 6 (Pn.calm 7 (Pn.calm 8 (Pn.calm 9 (Pn.calm 10 (Pn.calm 11 (Pn.eff 12 [2, 11, 0, 1, 6, 10, 5, 9, 4, 8, 3, 7] Pn.done Pn.no))))))))))))), ⟨by kernel_rfl⟩, ?_⟩
  refine ob_ck H fun h26 H => ?_
  try dsimp only at h26
  intro n27 hn28
  subst hn28
  refine ob_nc ?_
  refine ld_sl (A := A0_1) (n := a0.2.1.length) (c := c0_1) (rd_get hR0 rfl) ?_
  refine ob_nc ?_
  refine ld_int (e := a0.2.2.2) (rd_get hR0 rfl) ?_
  refine ob_sl hcr0_1 H fun h29 H => ?_
  have hs30 := sl_es hRr0_1 rfl hcr0_1 h29
  intro n31 hn32
  obtain rfl : n31 = ((a0.2.1.drop a0.2.2.2.toNat).take (((a0.2.1.length : Nat) : Int).toNat - a0.2.2.2.toNat)).length := hn32.trans hs30.2.1.symm
  refine And.intro ?_ trivial
  refine rs_st hs30.1 (es_len.trans (Nat.mul_one _).symm) ?_
  refine And.intro ⟨by first | omega | (dsimp only; omega), es_one⟩ ?_
  intro r33 n35 zs37 hr34 hn36 hz38
  subst hr34
  subst hn36
  have hl39 : (cpy (cpy (List.replicate v7.toNat (⟨#[]⟩ : ByteArray)) 0 ((a0.2.1.drop (0 : Int).toNat).take (a0.2.2.1.toNat - (0 : Int).toNat)) (min (((a0.2.1.drop (0 : Int).toNat).take (a0.2.2.1.toNat - (0 : Int).toNat)).length) v7.toNat)) ((((min (((a0.2.1.drop (0 : Int).toNat).take (a0.2.2.1.toNat - (0 : Int).toNat)).length) v7.toNat) : Nat) : Int).toNat) ((a0.2.1.drop a0.2.2.2.toNat).take (((a0.2.1.length : Nat) : Int).toNat - a0.2.2.2.toNat)) (min (((a0.2.1.drop a0.2.2.2.toNat).take (((a0.2.1.length : Nat) : Int).toNat - a0.2.2.2.toNat)).length) (((v7.toNat : Nat) : Int).toNat - (((min (((a0.2.1.drop (0 : Int).toNat).take (a0.2.2.1.toNat - (0 : Int).toNat)).length) v7.toNat) : Nat) : Int).toNat))).length = (cpy (List.replicate v7.toNat (⟨#[]⟩ : ByteArray)) 0 ((a0.2.1.drop (0 : Int).toNat).take (a0.2.2.1.toNat - (0 : Int).toNat)) (min (((a0.2.1.drop (0 : Int).toNat).take (a0.2.2.1.toNat - (0 : Int).toNat)).length) v7.toNat)).length := len_cpy (by first | omega | (dsimp only; omega)) (by first | omega | (rw [len_vw (by omega)]; omega) | (dsimp only; rw [len_vw (by omega)]; omega))
  obtain rfl : zs37 = es (cpy (cpy (List.replicate v7.toNat (⟨#[]⟩ : ByteArray)) 0 ((a0.2.1.drop (0 : Int).toNat).take (a0.2.2.1.toNat - (0 : Int).toNat)) (min (((a0.2.1.drop (0 : Int).toNat).take (a0.2.2.1.toNat - (0 : Int).toNat)).length) v7.toNat)) ((((min (((a0.2.1.drop (0 : Int).toNat).take (a0.2.2.1.toNat - (0 : Int).toNat)).length) v7.toNat) : Nat) : Int).toNat) ((a0.2.1.drop a0.2.2.2.toNat).take (((a0.2.1.length : Nat) : Int).toNat - a0.2.2.2.toNat)) (min (((a0.2.1.drop a0.2.2.2.toNat).take (((a0.2.1.length : Nat) : Int).toNat - a0.2.2.2.toNat)).length) (((v7.toNat : Nat) : Int).toNat - (((min (((a0.2.1.drop (0 : Int).toNat).take (a0.2.2.1.toNat - (0 : Int).toNat)).length) v7.toNat) : Nat) : Int).toNat))) := hz38.trans es_cpy.symm
  refine And.intro ⟨fun _ _ _ h => h⟩ ?_
  have hfin := fin_st H
  repeat refine mf1ZG2 ?_
  first | exact trivial | exact rfl
noncomputable def g42 (a0 : (Int × List ByteArray × Int × Int)) (a1 : Int) : Option ((Int × List ByteArray × Int × Int)) :=
 ck (inR .i64 (a0.2.2.2 - a0.2.2.1)) <|
 if a1 ≤ (a0.2.2.2 - a0.2.2.1) then
  some (a0.1, a0.2.1, a0.2.2.1, a0.2.2.2)
 else
  (
   (g41 (a0.1, a0.2.1, a0.2.2.1, a0.2.2.2)).bind fun v44 =>
   ck (inR .i64 (a1 + v44)) <|
   ck (inR .i64 ((a1 + v44) + 8)) <|
   ck (inR .i64 (((a0.2.1.length : Nat) : Int) + ((a1 + v44) + 8))) <|
   ck (0 ≤ ((a0.2.1.length : Nat) : Int) + ((a1 + v44) + 8) ∧ ((a0.2.1.length : Nat) : Int) + ((a1 + v44) + 8) ≤ ((a0.2.1.length : Nat) : Int) + ((a1 + v44) + 8) ∧ ((a0.2.1.length : Nat) : Int) + ((a1 + v44) + 8) ≤ 9223372036854775807 ∧ (((a0.2.1.length : Nat) : Int) + ((a1 + v44) + 8)) * ((16 : Nat) : Int) ≤ 140737488355328) <|
   ck (0 ≤ (0 : Int) ∧ (0 : Int) ≤ a0.2.2.1 ∧ a0.2.2.1 ≤ ((a0.2.1.length : Nat) : Int)) <|
   ck (inR .i64 (a0.2.2.2 + ((a1 + v44) + 8))) <|
   ck (0 ≤ a0.2.2.2 + ((a1 + v44) + 8) ∧ a0.2.2.2 + ((a1 + v44) + 8) ≤ (((((a0.2.1.length : Nat) : Int) + ((a1 + v44) + 8)).toNat : Nat) : Int) ∧ (((((a0.2.1.length : Nat) : Int) + ((a1 + v44) + 8)).toNat : Nat) : Int) ≤ (((((a0.2.1.length : Nat) : Int) + ((a1 + v44) + 8)).toNat : Nat) : Int)) <|
   ck (0 ≤ a0.2.2.2 ∧ a0.2.2.2 ≤ ((a0.2.1.length : Nat) : Int) ∧ ((a0.2.1.length : Nat) : Int) ≤ ((a0.2.1.length : Nat) : Int)) <|
   ck (inR .i64 (a0.2.2.2 + ((a1 + v44) + 8))) <|
   some (a0.1, (cpy (cpy (List.replicate (((a0.2.1.length : Nat) : Int) + ((a1 + v44) + 8)).toNat (⟨#[]⟩ : ByteArray)) 0 ((a0.2.1.drop ((0 : Int).toNat)).take (a0.2.2.1.toNat - (0 : Int).toNat)) (min (a0.2.2.1.toNat - (0 : Int).toNat) ((((a0.2.1.length : Nat) : Int) + ((a1 + v44) + 8)).toNat))) ((a0.2.2.2 + ((a1 + v44) + 8)).toNat) ((a0.2.1.drop a0.2.2.2.toNat).take (((a0.2.1.length : Nat) : Int).toNat - a0.2.2.2.toNat)) (min (((a0.2.1.length : Nat) : Int).toNat - a0.2.2.2.toNat) ((((((a0.2.1.length : Nat) : Int) + ((a1 + v44) + 8)).toNat : Nat) : Int).toNat - (a0.2.2.2 + ((a1 + v44) + 8)).toNat))), a0.2.2.1, a0.2.2.2 + ((a1 + v44) + 8))
  )
noncomputable def k42 : Eng.CS := { f := 42, calm := false, more := 3, ι := (Int × List ByteArray × Int × Int) × Int × (Int × List ByteArray × Int × Int), ok := fun i => g42 i.1 i.2.1 = some i.2.2, rds := fun _ => [], args := fun i => [.w (.lp 0 0), .w (.v (.int .i64 (i.2.1)))], res := fun i => .tup [], L' := fun i => [(0, .cells 41 [.v (.int .i64 (i.2.2.1)), .own 2, .v (.int .i64 (i.2.2.2.2.1)), .v (.int .i64 (i.2.2.2.2.2))]), (2, .arr 9 1 i.2.2.2.1.length (es i.2.2.2.1))], rn := [(100000, 1, 9, 1)], keys := 2, L := fun i => [(0, .cells 41 [.v (.int .i64 (i.1.1)), .own 1, .v (.int .i64 (i.1.2.2.1)), .v (.int .i64 (i.1.2.2.2))]), (1, .arr 9 1 i.1.2.1.length (es i.1.2.1))] }
set_option maxRecDepth 8000 in
set_option maxHeartbeats 4000000 in
theorem k42_ok : CSOk Tryz.prog k42 := by
 refine R.cspec Tryz.func42 nm42 rfl ?_
 rintro ⟨a0, a1, r⟩ hok q _ args hargs
 dsimp only [k42] at hargs ⊢
 match args, hargs with
 | [_, _], hargs =>
 obtain ⟨rfl, rfl, _⟩ := hargs
 refine ⟨envC [k41] false [], 6, envC_ok (css_cons ⟨fun _ => k41_ok, fun h => (by cases h)⟩ (css_nil)), ?_⟩
 have H : Gives (g42 a0 a1) (fun a => a = r) := ⟨r, hok, rfl⟩
 unfold g42 at H
 clear hok
 refine And.intro ⟨by kernel_rfl⟩ ?_
 refine ob_ck H fun h42 H => ?_
 refine if_st H (fun h43 H => ?_) (fun h43 H => ?_)
 ·have hfin := fin_st H
  repeat refine mf1ZG2 ?_
  first | exact trivial | exact rfl
 ·obtain ⟨v44, hv45, H⟩ := call_st H
  refine ⟨((a0.1, a0.2.1, a0.2.2.1, a0.2.2.2), v44), ⟨hv45⟩, ⟨trivial⟩, ?_⟩
  iterate 4 refine mo1ZG2 ?_
  refine ob_ck H fun h46 H => ?_
  refine ob_ck H fun h47 H => ?_
  refine ob_ck H fun h48 H => ?_
  refine ob_ck H fun h54 H => ?_
  intro n49 zs51 hn50 hz52
  subst hn50
  have hl53 : (List.replicate (((a0.2.1.length : Nat) : Int) + ((a1 + v44) + 8)).toNat (⟨#[]⟩ : ByteArray)).length = (((a0.2.1.length : Nat) : Int) + ((a1 + v44) + 8)).toNat := List.length_replicate
  obtain rfl : zs51 = es (List.replicate (((a0.2.1.length : Nat) : Int) + ((a1 + v44) + 8)).toNat (⟨#[]⟩ : ByteArray)) := hz52.trans es_rep.symm
  refine And.intro ⟨by kernel_rfl⟩ ?_
  refine ⟨(Pn.calm 0 (Pn.calm 1 (Pn.calm 2 (Pn.calm 3 (Pn.calm 4 (Pn.calm 5 (Pn.calm 6 (Pn.calm 7 (Pn.calm 8 (Pn.calm 9 (Pn.eff 10 [0, 9, 4, 8, 3, 7, 2, 6, 1, 5] Pn.done Pn.no))))))))))), ⟨by kernel_rfl⟩, ?_⟩
  refine ob_ck H fun h55 H => ?_
  try dsimp only at h55
  intro n56 hn57
  subst hn57
  refine And.intro ?_ trivial
  refine And.intro ⟨by first | omega | (dsimp only; omega)⟩ ?_
  refine And.intro ⟨(vw_one es_one)⟩ ?_
  intro r58 n60 zs62 hr59 hn61 hz63
  subst hr59
  subst hn61
  have hl64 : (cpy (List.replicate (((a0.2.1.length : Nat) : Int) + ((a1 + v44) + 8)).toNat (⟨#[]⟩ : ByteArray)) 0 ((a0.2.1.drop ((0 : Int).toNat)).take (a0.2.2.1.toNat - (0 : Int).toNat)) (min (a0.2.2.1.toNat - (0 : Int).toNat) ((((a0.2.1.length : Nat) : Int) + ((a1 + v44) + 8)).toNat))).length = (List.replicate (((a0.2.1.length : Nat) : Int) + ((a1 + v44) + 8)).toNat (⟨#[]⟩ : ByteArray)).length := len_cpy (by first | omega | (dsimp only; omega)) (by first | omega | (rw [len_vw (by omega)]; omega) | (dsimp only; rw [len_vw (by omega)]; omega))
  obtain rfl : zs62 = es (cpy (List.replicate (((a0.2.1.length : Nat) : Int) + ((a1 + v44) + 8)).toNat (⟨#[]⟩ : ByteArray)) 0 ((a0.2.1.drop ((0 : Int).toNat)).take (a0.2.2.1.toNat - (0 : Int).toNat)) (min (a0.2.2.1.toNat - (0 : Int).toNat) ((((a0.2.1.length : Nat) : Int) + ((a1 + v44) + 8)).toNat))) := by rw [hz63, es_vw]; exact es_cpy0.symm
  refine And.intro ⟨fun _ _ _ h => h⟩ ?_
  refine And.intro ⟨by kernel_rfl⟩ ?_
  refine ⟨(Pn.calm 0 (Pn.calm 1 (Pn.calm 2 (Pn.calm 3 (Pn.calm 4 (Pn.calm 5 (Pn.calm 6 (Pn.calm 7 (Pn.calm 8 (Pn.calm 9 (Pn.calm 10 (Pn.calm 11 (Pn.calm 12 (Pn.calm 13 (Pn.calm 14 (Pn.calm 15 (Pn.calm 16 (Pn.eff 17 [7, 16, 0, 6, 11, 15, 4, 5, 10, 14, 3, 9, 13, 2, 8, 12, 1] Pn.done Pn.no)))))))))))))))))), ⟨by kernel_rfl⟩, ?_⟩
  refine ob_ck H fun h65 H => ?_
  refine ob_ck H fun h66 H => ?_
  try dsimp only at h66
  intro n67 hn68
  subst hn68
  refine ob_ck H fun h69 H => ?_
  try dsimp only at h69
  intro n70 hn71
  subst hn71
  refine And.intro ?_ trivial
  refine And.intro ⟨by first | omega | (dsimp only; omega)⟩ ?_
  refine And.intro ⟨by first | omega | (dsimp only; omega), (vw_one es_one)⟩ ?_
  intro r72 n74 zs76 hr73 hn75 hz77
  subst hr73
  subst hn75
  have hl78 : (cpy (cpy (List.replicate (((a0.2.1.length : Nat) : Int) + ((a1 + v44) + 8)).toNat (⟨#[]⟩ : ByteArray)) 0 ((a0.2.1.drop ((0 : Int).toNat)).take (a0.2.2.1.toNat - (0 : Int).toNat)) (min (a0.2.2.1.toNat - (0 : Int).toNat) ((((a0.2.1.length : Nat) : Int) + ((a1 + v44) + 8)).toNat))) ((a0.2.2.2 + ((a1 + v44) + 8)).toNat) ((a0.2.1.drop a0.2.2.2.toNat).take (((a0.2.1.length : Nat) : Int).toNat - a0.2.2.2.toNat)) (min (((a0.2.1.length : Nat) : Int).toNat - a0.2.2.2.toNat) ((((((a0.2.1.length : Nat) : Int) + ((a1 + v44) + 8)).toNat : Nat) : Int).toNat - (a0.2.2.2 + ((a1 + v44) + 8)).toNat))).length = (cpy (List.replicate (((a0.2.1.length : Nat) : Int) + ((a1 + v44) + 8)).toNat (⟨#[]⟩ : ByteArray)) 0 ((a0.2.1.drop ((0 : Int).toNat)).take (a0.2.2.1.toNat - (0 : Int).toNat)) (min (a0.2.2.1.toNat - (0 : Int).toNat) ((((a0.2.1.length : Nat) : Int) + ((a1 + v44) + 8)).toNat))).length := len_cpy (by first | omega | (dsimp only; omega)) (by first | omega | (rw [len_vw (by omega)]; omega) | (dsimp only; rw [len_vw (by omega)]; omega))
  obtain rfl : zs76 = es (cpy (cpy (List.replicate (((a0.2.1.length : Nat) : Int) + ((a1 + v44) + 8)).toNat (⟨#[]⟩ : ByteArray)) 0 ((a0.2.1.drop ((0 : Int).toNat)).take (a0.2.2.1.toNat - (0 : Int).toNat)) (min (a0.2.2.1.toNat - (0 : Int).toNat) ((((a0.2.1.length : Nat) : Int) + ((a1 + v44) + 8)).toNat))) ((a0.2.2.2 + ((a1 + v44) + 8)).toNat) ((a0.2.1.drop a0.2.2.2.toNat).take (((a0.2.1.length : Nat) : Int).toNat - a0.2.2.2.toNat)) (min (((a0.2.1.length : Nat) : Int).toNat - a0.2.2.2.toNat) ((((((a0.2.1.length : Nat) : Int) + ((a1 + v44) + 8)).toNat : Nat) : Int).toNat - (a0.2.2.2 + ((a1 + v44) + 8)).toNat))) := by rw [hz77, es_vw]; exact es_cpy.symm
  refine And.intro ⟨fun _ _ _ h => h⟩ ?_
  refine ob_ck H fun h79 H => ?_
  have hfin := fin_st H
  repeat refine mf1ZG2 ?_
  first | exact trivial | exact rfl
noncomputable def g11 (a0 : (Int × List ByteArray × Int × Int)) (a1 : Int) : Option (Int × (Int × List ByteArray × Int × Int)) :=
 (g39 (a0.1, a0.2.1, a0.2.2.1, a0.2.2.2)).bind fun v83 =>
 if ¬ (v83 = true) then
  some (0, (a0.1, a0.2.1, a0.2.2.1, a0.2.2.2))
 else
  (
   (g43 (a0.1, a0.2.1, a0.2.2.1, a0.2.2.2) a1).bind fun v86 =>
   if v86 < a0.2.2.1 then
    (
     ck (inR .i64 (a0.2.2.1 - v86)) <|
     ck (inR .i64 (a0.2.2.2 - (a0.2.2.1 - v86))) <|
     ck (0 ≤ a0.2.2.2 - (a0.2.2.1 - v86) ∧ a0.2.2.2 - (a0.2.2.1 - v86) ≤ a0.2.2.2 ∧ a0.2.2.2 ≤ ((a0.2.1.length : Nat) : Int)) <|
     ck (0 ≤ v86 ∧ v86 ≤ a0.2.2.1 ∧ a0.2.2.1 ≤ ((a0.2.1.length : Nat) : Int)) <|
     ck (inR .i64 (a0.2.2.2 - (a0.2.2.1 - v86))) <|
     some (v86, (a0.1, (cpy a0.2.1 ((a0.2.2.2 - (a0.2.2.1 - v86)).toNat) ((a0.2.1.drop v86.toNat).take (a0.2.2.1.toNat - v86.toNat)) (min (a0.2.2.1.toNat - v86.toNat) (a0.2.2.2.toNat - (a0.2.2.2 - (a0.2.2.1 - v86)).toNat))), v86, a0.2.2.2 - (a0.2.2.1 - v86)))
    )
   else
    (
     ck (inR .i64 (v86 - a0.2.2.1)) <|
     ck (0 ≤ a0.2.2.1 ∧ a0.2.2.1 ≤ ((a0.2.1.length : Nat) : Int) ∧ ((a0.2.1.length : Nat) : Int) ≤ ((a0.2.1.length : Nat) : Int)) <|
     ck (inR .i64 (a0.2.2.2 + (v86 - a0.2.2.1))) <|
     ck (0 ≤ a0.2.2.2 ∧ a0.2.2.2 ≤ a0.2.2.2 + (v86 - a0.2.2.1) ∧ a0.2.2.2 + (v86 - a0.2.2.1) ≤ ((a0.2.1.length : Nat) : Int)) <|
     ck (inR .i64 (a0.2.2.2 + (v86 - a0.2.2.1))) <|
     some (v86, (a0.1, (cpy a0.2.1 a0.2.2.1.toNat ((a0.2.1.drop a0.2.2.2.toNat).take ((a0.2.2.2 + (v86 - a0.2.2.1)).toNat - a0.2.2.2.toNat)) (min ((a0.2.2.2 + (v86 - a0.2.2.1)).toNat - a0.2.2.2.toNat) (((a0.2.1.length : Nat) : Int).toNat - a0.2.2.1.toNat))), v86, a0.2.2.2 + (v86 - a0.2.2.1)))
    )
  )
noncomputable def k11 : Eng.CS := { f := 11, calm := false, more := 3, ι := (Int × List ByteArray × Int × Int) × Int × (Int × (Int × List ByteArray × Int × Int)), ok := fun i => g11 i.1 i.2.1 = some i.2.2, rds := fun _ => [], args := fun i => [.w (.lp 0 0), .w (.v (.int .i64 (i.2.1)))], res := fun i => .v (.int .i64 (i.2.2.1)), L' := fun i => [(0, .cells 41 [.v (.int .i64 (i.2.2.2.1)), .own 2, .v (.int .i64 (i.2.2.2.2.2.1)), .v (.int .i64 (i.2.2.2.2.2.2))]), (2, .arr 9 1 i.2.2.2.2.1.length (es i.2.2.2.2.1))], rn := [(100000, 1, 9, 1)], keys := 2, L := fun i => [(0, .cells 41 [.v (.int .i64 (i.1.1)), .own 1, .v (.int .i64 (i.1.2.2.1)), .v (.int .i64 (i.1.2.2.2))]), (1, .arr 9 1 i.1.2.1.length (es i.1.2.1))] }
set_option maxRecDepth 8000 in
set_option maxHeartbeats 4000000 in
theorem k11_ok : CSOk Tryz.prog k11 := by
 refine R.cspec Tryz.func11 nm11 rfl ?_
 rintro ⟨a0, a1, r⟩ hok q _ args hargs
 dsimp only [k11] at hargs ⊢
 match args, hargs with
 | [_, _], hargs =>
 obtain ⟨rfl, rfl, _⟩ := hargs
 refine ⟨envC [k39, k43] false [], 6, envC_ok (css_cons ⟨fun _ => k39_ok, fun h => (by cases h)⟩ (css_cons ⟨fun _ => k43_ok, fun h => (by cases h)⟩ (css_nil))), ?_⟩
 have H : Gives (g11 a0 a1) (fun a => a = r) := ⟨r, hok, rfl⟩
 unfold g11 at H
 clear hok
 obtain ⟨v83, hv84, H⟩ := call_st H
 refine ⟨((a0.1, a0.2.1, a0.2.2.1, a0.2.2.2), v83), ⟨hv84⟩, ⟨trivial⟩, ?_⟩
 iterate 4 refine mo1ZG2 ?_
 refine if_st H (fun h85 H => ?_) (fun h85 H => ?_)
 ·have hfin := fin_st H
  repeat refine mf1ZG2 ?_
  first | exact trivial | exact rfl
 ·obtain ⟨v86, hv87, H⟩ := call_st H
  refine ⟨((a0.1, a0.2.1, a0.2.2.1, a0.2.2.2), a1, v86), ⟨hv87⟩, ⟨trivial⟩, ?_⟩
  iterate 4 refine mo1ZG2 ?_
  refine And.intro ⟨rfl⟩ ?_
  refine if_st H (fun h121 H => ?_) (fun h121 H => ?_)
  ·refine ob_ck H fun h122 H => ?_
   refine And.intro ⟨by kernel_rfl⟩ ?_
   refine ⟨(Pn.calm 0 (Pn.calm 1 (Pn.calm 2 (Pn.calm 3 (Pn.calm 4 (Pn.calm 5 (Pn.calm 6 (Pn.calm 7 (Pn.calm 8 (Pn.calm 9 (Pn.calm 10 (Pn.calm 11 (Pn.calm 12 (Pn.calm 13 (Pn.calm 14 (Pn.calm 15 (Pn.calm 16 (Pn.calm 17 (Pn.calm 18 (Pn.calm 19 (Pn.calm 20 (Pn.calm 21 (Pn.calm 22 (Pn.calm 23 (Pn.calm 24 (Pn.eff 25 [14, 24, 3, 9, 13, 18, 19, 23, 2, 7, 8, 12, 17, 22, 1, 6, 11, 16, 21, 0, 5, 10, 15, 20, 4] Pn.done Pn.no)))))))))))))))))))))))))), ⟨by kernel_rfl⟩, ?_⟩
   refine ob_ck H fun h123 H => ?_
   refine ob_ck H fun h124 H => ?_
   try dsimp only at h124
   intro n125 hn126
   subst hn126
   refine ob_ck H fun h127 H => ?_
   try dsimp only at h127
   intro n128 hn129
   subst hn129
   refine And.intro ?_ trivial
   refine And.intro ⟨by first | omega | (dsimp only; omega)⟩ ?_
   refine And.intro ⟨by first | omega | (dsimp only; omega), (vw_one es_one)⟩ ?_
   intro r130 n132 zs134 hr131 hn133 hz135
   subst hr131
   subst hn133
   have hl136 : (cpy a0.2.1 ((a0.2.2.2 - (a0.2.2.1 - v86)).toNat) ((a0.2.1.drop v86.toNat).take (a0.2.2.1.toNat - v86.toNat)) (min (a0.2.2.1.toNat - v86.toNat) (a0.2.2.2.toNat - (a0.2.2.2 - (a0.2.2.1 - v86)).toNat))).length = a0.2.1.length := len_cpy (by first | omega | (dsimp only; omega)) (by first | omega | (rw [len_vw (by omega)]; omega) | (dsimp only; rw [len_vw (by omega)]; omega))
   obtain rfl : zs134 = es (cpy a0.2.1 ((a0.2.2.2 - (a0.2.2.1 - v86)).toNat) ((a0.2.1.drop v86.toNat).take (a0.2.2.1.toNat - v86.toNat)) (min (a0.2.2.1.toNat - v86.toNat) (a0.2.2.2.toNat - (a0.2.2.2 - (a0.2.2.1 - v86)).toNat))) := by rw [hz135, es_vw]; exact es_cpy.symm
   refine And.intro ⟨fun _ _ _ h => h⟩ ?_
   refine ob_ck H fun h137 H => ?_
   have hfin := fin_st H
   repeat refine mf1ZG2 ?_
   first | exact trivial | exact rfl
  ·refine ob_ck H fun h138 H => ?_
   refine And.intro ⟨by kernel_rfl⟩ ?_
   refine ⟨(Pn.calm 0 (Pn.calm 1 (Pn.calm 2 (Pn.calm 3 (Pn.calm 4 (Pn.calm 5 (Pn.calm 6 (Pn.calm 7 (Pn.calm 8 (Pn.calm 9 (Pn.calm 10 (Pn.calm 11 (Pn.calm 12 (Pn.calm 13 (Pn.calm 14 (Pn.calm 15 (Pn.calm 16 (Pn.calm 17 (Pn.calm 18 (Pn.calm 19 (Pn.calm 20 (Pn.calm 21 (Pn.calm 22 (Pn.calm 23 (Pn.eff 24 [8, 23, 3, 7, 12, 16, 22, 2, 6, 11, 15, 20, 21, 1, 5, 10, 14, 19, 0, 4, 9, 13, 18, 17] Pn.done Pn.no))))))))))))))))))))))))), ⟨by kernel_rfl⟩, ?_⟩
   refine ob_ck H fun h139 H => ?_
   try dsimp only at h139
   intro n140 hn141
   subst hn141
   refine ob_ck H fun h142 H => ?_
   refine ob_ck H fun h143 H => ?_
   try dsimp only at h143
   intro n144 hn145
   subst hn145
   refine And.intro ?_ trivial
   refine And.intro ⟨by first | omega | (dsimp only; omega)⟩ ?_
   refine And.intro ⟨by first | omega | (dsimp only; omega), (vw_one es_one)⟩ ?_
   intro r146 n148 zs150 hr147 hn149 hz151
   subst hr147
   subst hn149
   have hl152 : (cpy a0.2.1 a0.2.2.1.toNat ((a0.2.1.drop a0.2.2.2.toNat).take ((a0.2.2.2 + (v86 - a0.2.2.1)).toNat - a0.2.2.2.toNat)) (min ((a0.2.2.2 + (v86 - a0.2.2.1)).toNat - a0.2.2.2.toNat) (((a0.2.1.length : Nat) : Int).toNat - a0.2.2.1.toNat))).length = a0.2.1.length := len_cpy (by first | omega | (dsimp only; omega)) (by first | omega | (rw [len_vw (by omega)]; omega) | (dsimp only; rw [len_vw (by omega)]; omega))
   obtain rfl : zs150 = es (cpy a0.2.1 a0.2.2.1.toNat ((a0.2.1.drop a0.2.2.2.toNat).take ((a0.2.2.2 + (v86 - a0.2.2.1)).toNat - a0.2.2.2.toNat)) (min ((a0.2.2.2 + (v86 - a0.2.2.1)).toNat - a0.2.2.2.toNat) (((a0.2.1.length : Nat) : Int).toNat - a0.2.2.1.toNat))) := by rw [hz151, es_vw]; exact es_cpy.symm
   refine And.intro ⟨fun _ _ _ h => h⟩ ?_
   refine ob_ck H fun h153 H => ?_
   have hfin := fin_st H
   repeat refine mf1ZG2 ?_
   first | exact trivial | exact rfl
end Go.Proofs.YtenjkphlbdhaiaaGreat
end
section
namespace Go.Proofs.YtenjkphlbdhaiaaGreat
open Go Go.Eng
theorem mo1ZG3 {p q : Prop} (k : q) (h : p := by first | exact rfl | exact Iff.rfl | exact ⟨rfl, rfl⟩ | exact decide_eq_true_iff | (constructor <;> first | exact rfl | (simp only [ei, eb, es, ec, c133, gmin, gmax, List.map_append, List.flatMap_append, List.nil_append, List.append_nil, List.append_assoc]; done) | omega | (simp only [List.nil_append, List.length_append, List.length_cons, List.length_nil]; omega) | (simp [ei, eb, es, ec, c133, gmin, gmax]; done)) | exact rfl | (simp only [ei, eb, es, ec, c133, gmin, gmax, List.map_append, List.flatMap_append, List.nil_append, List.append_nil, List.append_assoc]; done) | omega | (simp only [List.nil_append, List.length_append, List.length_cons, List.length_nil]; omega) | (simp [ei, eb, es, ec, c133, gmin, gmax]; done) | simp [ei, eb, es, ec, c133, gmin, gmax]) : Ob p ∧ q := ⟨⟨h⟩, k⟩
theorem mf1ZG3 {p q : Prop} (k : q) (h : p := by first | (rw [← hfin] <;> first | exact rfl | exact Iff.rfl | exact ⟨rfl, rfl⟩ | exact decide_eq_true_iff | (constructor <;> first | exact rfl | (simp only [ei, eb, es, ec, c133, gmin, gmax, List.map_append, List.flatMap_append, List.nil_append, List.append_nil, List.append_assoc]; done) | omega | (simp only [List.nil_append, List.length_append, List.length_cons, List.length_nil]; omega) | (simp [ei, eb, es, ec, c133, gmin, gmax]; done)) | exact rfl | (simp only [ei, eb, es, ec, c133, gmin, gmax, List.map_append, List.flatMap_append, List.nil_append, List.append_nil, List.append_assoc]; done) | omega | (simp only [List.nil_append, List.length_append, List.length_cons, List.length_nil]; omega) | (simp [ei, eb, es, ec, c133, gmin, gmax]; done) | simp [ei, eb, es, ec, c133, gmin, gmax]) | first | exact rfl | exact Iff.rfl | exact ⟨rfl, rfl⟩ | exact decide_eq_true_iff | (constructor <;> first | exact rfl | (simp only [ei, eb, es, ec, c133, gmin, gmax, List.map_append, List.flatMap_append, List.nil_append, List.append_nil, List.append_assoc]; done) | omega | (simp only [List.nil_append, List.length_append, List.length_cons, List.length_nil]; omega) | (simp [ei, eb, es, ec, c133, gmin, gmax]; done)) | exact rfl | (simp only [ei, eb, es, ec, c133, gmin, gmax, List.map_append, List.flatMap_append, List.nil_append, List.append_nil, List.append_assoc]; done) | omega | (simp only [List.nil_append, List.length_append, List.length_cons, List.length_nil]; omega) | (simp [ei, eb, es, ec, c133, gmin, gmax]; done) | simp [ei, eb, es, ec, c133, gmin, gmax]) : Ob p ∧ q := ⟨⟨h⟩, k⟩
noncomputable def g10 (a0 : (Int × List ByteArray × Int × Int)) (a1 : List ByteArray) : Option (Int × (Int × List ByteArray × Int × Int)) :=
 (g39 (a0.1, a0.2.1, a0.2.2.1, a0.2.2.2)).bind fun v4 =>
 if ¬ (v4 = true) then
  some (4, (a0.1, a0.2.1, a0.2.2.1, a0.2.2.2))
 else
  (
   jn (α := _) (β := Unit) (fun k39 =>
     (loopO (σ := Int) (ρ := (Unit) ⊕ (Unit)) (fun s42 =>
       if s42 < ((a1.length : Nat) : Int) then
        (
         ck (0 ≤ s42 ∧ s42 < ((a1.length : Nat) : Int)) <|
         (g40 (a1.getD s42.toNat default)).bind fun v59 =>
         if ¬ (v59 = true) then
          some (.out (.inl (())))
         else
          (
           ck (inR .i64 (s42 + 1)) <|
           some (.go (s42 + 1))
          )
        )
       else
        some (.out (.inr (())))
      ) 0).bind fun o56 =>
     sm o56 (fun o63 =>
       some (1, (a0.1, a0.2.1, a0.2.2.1, a0.2.2.2))
      ) (fun o64 =>
       k39 ()
      )
   ) (fun v38 =>
    (g41 (a0.1, a0.2.1, a0.2.2.1, a0.2.2.2)).bind fun v70 =>
    ck (inR .i64 (a0.1 - v70)) <|
    if (a0.1 - v70) < ((a1.length : Nat) : Int) then
     some (3, (a0.1, a0.2.1, a0.2.2.1, a0.2.2.2))
    else
     (
      (g42 (a0.1, a0.2.1, a0.2.2.1, a0.2.2.2) ((a1.length : Nat) : Int)).bind fun v74 =>
      ck (0 ≤ v74.2.2.1 ∧ v74.2.2.1 ≤ v74.2.2.2 ∧ v74.2.2.2 ≤ ((v74.2.1.length : Nat) : Int)) <|
      ck (inR .i64 (v74.2.2.1 + (((min a1.length (v74.2.2.2.toNat - v74.2.2.1.toNat)) : Nat) : Int))) <|
      some (0, (v74.1, (cpy v74.2.1 v74.2.2.1.toNat a1 (min a1.length (v74.2.2.2.toNat - v74.2.2.1.toNat))), v74.2.2.1 + (((min a1.length (v74.2.2.2.toNat - v74.2.2.1.toNat)) : Nat) : Int), v74.2.2.2))
     )
   )
  )
noncomputable def k10 : Eng.CS := { f := 10, calm := false, more := 3, ι := (Int × List ByteArray × Int × Int) × (List ByteArray) × (Int × (Int × List ByteArray × Int × Int)), ok := fun i => g10 i.1 i.2.1 = some i.2.2, rds := fun _ => [], args := fun i => [.w (.lp 0 0), .sl 1 i.2.1.length (es i.2.1)], res := fun i => .v (.int .i64 (i.2.2.1)), L' := fun i => [(0, .cells 41 [.v (.int .i64 (i.2.2.2.1)), .own 2, .v (.int .i64 (i.2.2.2.2.2.1)), .v (.int .i64 (i.2.2.2.2.2.2))]), (2, .arr 9 1 i.2.2.2.2.1.length (es i.2.2.2.2.1))], rn := [(100000, 1, 9, 1)], keys := 2, L := fun i => [(0, .cells 41 [.v (.int .i64 (i.1.1)), .own 1, .v (.int .i64 (i.1.2.2.1)), .v (.int .i64 (i.1.2.2.2))]), (1, .arr 9 1 i.1.2.1.length (es i.1.2.1))] }
set_option maxRecDepth 8000 in
set_option maxHeartbeats 4000000 in
theorem k10_ok : CSOk Tryz.prog k10 := by
 refine R.cspec Tryz.func10 nm10 rfl ?_
 rintro ⟨a0, a1, r⟩ hok q _ args hargs
 dsimp only [k10] at hargs ⊢
 match args, hargs with
 | [_, _], hargs =>
 obtain ⟨rfl, ⟨A1, cp1, rfl, hc1, _, hR1⟩, _⟩ := hargs
 refine ⟨envC [k39, k40, k41, k42] false [(10, 9)], 6, envC_ok (css_cons ⟨fun _ => k39_ok, fun h => (by cases h)⟩ (css_cons ⟨fun _ => k40_ok, fun h => (by cases h)⟩ (css_cons ⟨fun _ => k41_ok, fun h => (by cases h)⟩ (css_cons ⟨fun h => (by cases h), fun _ => k42_ok⟩ (css_nil))))), ?_⟩
 have H : Gives (g10 a0 a1) (fun a => a = r) := ⟨r, hok, rfl⟩
 unfold g10 at H
 clear hok
 obtain ⟨v4, hv5, H⟩ := call_st H
 refine ⟨((a0.1, a0.2.1, a0.2.2.1, a0.2.2.2), v4), ⟨hv5⟩, ⟨trivial⟩, ?_⟩
 iterate 4 refine mo1ZG3 ?_
 refine if_st H (fun h6 H => ?_) (fun h6 H => ?_)
 ·have hfin := fin_st H
  repeat refine mf1ZG3 ?_
  first | exact trivial | exact rfl
 ·refine R.cut_fam H 12 [0, 1] [] (fun v38 => []) (fun v38 => []) [(1, .arr 9 1 (a0.2.1.length) (es (a0.2.1))), (0, .cells 41 [.v (.int .i64 (a0.1)), .own 1, .v (.int .i64 (a0.2.2.1)), .v (.int .i64 (a0.2.2.2))])] 0 (fun H => ?_)
  refine And.intro ?_ ?_
  ·refine R.loop_fam (bind_st H) [0, 1, 10, 11] [] (fun _ s42 => [(12, .v (.int .i64 (s42)))]) (fun _ s42 => []) 0 (fun n65 H => ?_)
   refine ⟨(n65, _), ⟨H⟩, ⟨trivial⟩, ?_⟩
   repeat refine mo1ZG3 ?_
   rintro ⟨m0, s42⟩ H _
   obtain ⟨m43, hm0, H⟩ := IG_succ H
   dsimp only at hm0
   subst hm0
   try dsimp only at H
   refine if_st H (fun h57 H => ?_) (fun h57 H => ?_)
   ·refine ob_ix hR1 (fun h => es0 h) H fun h58 H => ?_
    refine ld_str (e := a1.getD s42.toNat default) (rd_get hR1 (es_get (l := a1) (tn h58))) ?_
    obtain ⟨v59, hv60, H⟩ := call_st H
    refine ⟨(a1.getD s42.toNat default, v59), ⟨hv60⟩, ⟨trivial⟩, ?_⟩
    refine And.intro ⟨rfl⟩ ?_
    refine if_st H (fun h61 H => ?_) (fun h61 H => ?_)
    ·replace H := some_st H
     dsimp only [stp, sm] at H
     have hfin := fin_st H
     repeat refine mf1ZG3 ?_
     first | exact trivial | exact rfl
    ·refine ob_ck H fun h62 H => ?_
     replace H := some_st H
     refine ⟨(m43, s42 + 1), ⟨H, Nat.lt_succ_self _⟩, ⟨trivial⟩, ⟨rfl⟩, ?_⟩
     repeat refine mo1ZG3 ?_
     first | exact trivial | exact rfl
   ·replace H := some_st H
    dsimp only [stp, sm] at H
    refine ⟨(), ⟨H⟩, ⟨rfl⟩, ?_⟩
    repeat refine mo1ZG3 ?_
    first | exact trivial | exact rfl
  ·intro v38 H
   refine And.intro ⟨by kernel_rfl⟩ ?_
   obtain ⟨v70, hv71, H⟩ := call_st H
   refine ⟨((a0.1, a0.2.1, a0.2.2.1, a0.2.2.2), v70), ⟨hv71⟩, ⟨trivial⟩, ?_⟩
   iterate 4 refine mo1ZG3 ?_
   refine ob_ck H fun h72 H => ?_
   refine if_st H (fun h73 H => ?_) (fun h73 H => ?_)
   ·have hfin := fin_st H
    repeat refine mf1ZG3 ?_
    first | exact trivial | exact rfl
   ·obtain ⟨v74, hv75, H⟩ := call_st H
    refine ⟨((a0.1, a0.2.1, a0.2.2.1, a0.2.2.2), ((a1.length : Nat) : Int), v74), ⟨hv75⟩, ⟨trivial⟩, ?_⟩
    iterate 2 refine And.intro ⟨rfl⟩ ?_
    iterate 4 refine mo1ZG3 ?_
    refine And.intro ⟨by kernel_rfl⟩ ?_
    refine ⟨(Pn.calm 0 (Pn.calm 1 (Pn.calm 2 (Pn.calm 3 (Pn.calm 4 (Pn.calm 5 (Pn.calm 6 (Pn.calm 7 (Pn.calm 8 (Pn.calm 9 (Pn.calm 10 (Pn.calm 11 (Pn.calm 12 (Pn.calm 13 (Pn.calm 14 (Pn.calm 15 (Pn.calm 16 (Pn.calm 17 (Pn.eff 18 [16, 17, 7, 11, 15, 6, 10, 14, 5, 9, 13, 4, 8, 12] (Pn.calm 19 (Pn.calm 20 (Pn.calm 21 (Pn.eff 22 [21, 19, 18, 0, 1, 2, 3, 4, 5, 6, 7, 8, 9, 10, 11, 12, 13, 14, 15, 16, 17, 20] Pn.done Pn.no)))) Pn.no))))))))))))))))))), ⟨by kernel_rfl⟩, ?_⟩
    refine ob_ck H fun h76 H => ?_
    try dsimp only at h76
    intro n77 hn78
    subst hn78
    refine And.intro ?_ trivial
    refine rs_st hR1 (es_len.trans (Nat.mul_one _).symm) ?_
    refine And.intro ⟨by first | omega | (dsimp only; omega), es_one⟩ ?_
    intro r79 n81 zs83 hr80 hn82 hz84
    subst hr80
    subst hn82
    have hl85 : (cpy v74.2.1 v74.2.2.1.toNat a1 (min a1.length (v74.2.2.2.toNat - v74.2.2.1.toNat))).length = v74.2.1.length := len_cpy (by first | omega | (dsimp only; omega)) (by first | omega | (rw [len_vw (by omega)]; omega) | (dsimp only; rw [len_vw (by omega)]; omega))
    obtain rfl : zs83 = es (cpy v74.2.1 v74.2.2.1.toNat a1 (min a1.length (v74.2.2.2.toNat - v74.2.2.1.toNat))) := hz84.trans es_cpy.symm
    refine And.intro ⟨fun _ _ _ h => h⟩ ?_
    refine ob_ck H fun h86 H => ?_
    refine And.intro ?_ trivial
    refine And.intro ⟨fun _ _ _ h => h⟩ ?_
    have hfin := fin_st H
    repeat refine mf1ZG3 ?_
    first | exact trivial | exact rfl
end Go.Proofs.YtenjkphlbdhaiaaGreat
end
