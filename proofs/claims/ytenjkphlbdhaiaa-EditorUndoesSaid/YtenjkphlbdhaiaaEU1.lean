/-
  Texts that the law leans on. Nothing here is trusted.
-/
import Derived.Test.YtenjkphlbdhaiaaEngTB
import Derived.Test.YtenjkphlbdhaiaaEngLc
set_option linter.unusedVariables false
set_option linter.unusedSimpArgs false
section
namespace Go.Proofs.Ytenjkphlbdhaiaa
open Go Go.Eng
theorem mo1B1 {p q : Prop} (k : q) (h : p := by first | exact rfl | exact Iff.rfl | exact ⟨rfl, rfl⟩ | exact decide_eq_true_iff | (constructor <;> first | exact rfl | (simp only [ei, eb, es, ec, List.map_append, List.flatMap_append, List.nil_append, List.append_nil, List.append_assoc]; done) | omega | (simp only [List.nil_append, List.length_append, List.length_cons, List.length_nil]; omega) | (simp [ei, eb, es, ec]; done)) | exact rfl | (simp only [ei, eb, es, ec, List.map_append, List.flatMap_append, List.nil_append, List.append_nil, List.append_assoc]; done) | omega | (simp only [List.nil_append, List.length_append, List.length_cons, List.length_nil]; omega) | (simp [ei, eb, es, ec]; done) | simp [ei, eb, es, ec]) : Ob p ∧ q := ⟨⟨h⟩, k⟩
theorem mf1B1 {p q : Prop} (k : q) (h : p := by first | (rw [← hfin] <;> first | exact rfl | exact Iff.rfl | exact ⟨rfl, rfl⟩ | exact decide_eq_true_iff | (constructor <;> first | exact rfl | (simp only [ei, eb, es, ec, List.map_append, List.flatMap_append, List.nil_append, List.append_nil, List.append_assoc]; done) | omega | (simp only [List.nil_append, List.length_append, List.length_cons, List.length_nil]; omega) | (simp [ei, eb, es, ec]; done)) | exact rfl | (simp only [ei, eb, es, ec, List.map_append, List.flatMap_append, List.nil_append, List.append_nil, List.append_assoc]; done) | omega | (simp only [List.nil_append, List.length_append, List.length_cons, List.length_nil]; omega) | (simp [ei, eb, es, ec]; done) | simp [ei, eb, es, ec]) | first | exact rfl | exact Iff.rfl | exact ⟨rfl, rfl⟩ | exact decide_eq_true_iff | (constructor <;> first | exact rfl | (simp only [ei, eb, es, ec, List.map_append, List.flatMap_append, List.nil_append, List.append_nil, List.append_assoc]; done) | omega | (simp only [List.nil_append, List.length_append, List.length_cons, List.length_nil]; omega) | (simp [ei, eb, es, ec]; done)) | exact rfl | (simp only [ei, eb, es, ec, List.map_append, List.flatMap_append, List.nil_append, List.append_nil, List.append_assoc]; done) | omega | (simp only [List.nil_append, List.length_append, List.length_cons, List.length_nil]; omega) | (simp [ei, eb, es, ec]; done) | simp [ei, eb, es, ec]) : Ob p ∧ q := ⟨⟨h⟩, k⟩
noncomputable def g134 (a0 : Int) : Option ((Int × Int × Int × Int)) :=
 if a0 < 128 then
  (
   ck (inR .i32 a0) <|
   some (1, 0, 0, a0)
  )
 else
  (
   if a0 < 194 then
    some (0, 0, 0, 0)
   else
    (
     if a0 < 224 then
      (
       ck (inR .i32 (bits .and .u8 a0 31)) <|
       some (2, 128, 191, bits .and .u8 a0 31)
      )
     else
      (
       if a0 = 224 then
        some (3, 160, 191, 0)
       else
        (
         if a0 = 237 then
          some (3, 128, 159, 13)
         else
          (
           if a0 < 240 then
            (
             ck (inR .i32 (bits .and .u8 a0 15)) <|
             some (3, 128, 191, bits .and .u8 a0 15)
            )
           else
            (
             if a0 = 240 then
              some (4, 144, 191, 0)
             else
              (
               if a0 < 244 then
                (
                 ck (inR .i32 (bits .and .u8 a0 7)) <|
                 some (4, 128, 191, bits .and .u8 a0 7)
                )
               else
                (
                 if a0 = 244 then
                  some (4, 128, 143, 4)
                 else
                  some (0, 0, 0, 0)
                )
              )
            )
          )
        )
      )
    )
  )
noncomputable def k134 : Eng.CS := { f := 134, calm := true, more := 0, ι := Int × (Int × Int × Int × Int), ok := fun i => g134 i.1 = some i.2, rds := fun _ => [], args := fun i => [.w (.v (.int .u8 (i.1)))], res := fun i => .agg [.v (.int .i64 (i.2.1)), .v (.int .u8 (i.2.2.1)), .v (.int .u8 (i.2.2.2.1)), .v (.int .i32 (i.2.2.2.2))] }
set_option maxRecDepth 8000 in
set_option maxHeartbeats 4000000 in
theorem k134_ok : CalmOk Try.prog k134 := by
 refine R.calmspec Try.func134 nm134 rfl ?_
 rintro ⟨a0, r⟩ hok q _ args hargs
 match args, hargs with
 | [_], hargs =>
 obtain ⟨rfl, _⟩ := hargs
 refine ⟨envC [] false [], 6, envC_ok (css_nil), rfl, (by intro x hx; simp only [List.mem_cons, List.not_mem_nil, or_false] at hx; rcases hx with rfl <;> rfl), ?_⟩
 have H : Gives (g134 a0) (fun a => a = r) := ⟨r, hok, rfl⟩
 unfold g134 at H
 clear hok
 refine if_st H (fun h14 H => ?_) (fun h14 H => ?_)
 ·refine ob_ck H fun h15 H => ?_
  have hfin := fin_st H
  repeat refine mf1B1 ?_
  first | exact trivial | exact rfl
 ·refine if_st H (fun h16 H => ?_) (fun h16 H => ?_)
  ·have hfin := fin_st H
   repeat refine mf1B1 ?_
   first | exact trivial | exact rfl
  ·refine if_st H (fun h17 H => ?_) (fun h17 H => ?_)
   ·refine ob_ck H fun h18 H => ?_
    have hfin := fin_st H
    repeat refine mf1B1 ?_
    first | exact trivial | exact rfl
   ·refine if_st H (fun h19 H => ?_) (fun h19 H => ?_)
    ·have hfin := fin_st H
     repeat refine mf1B1 ?_
     first | exact trivial | exact rfl
    ·refine if_st H (fun h20 H => ?_) (fun h20 H => ?_)
     ·have hfin := fin_st H
      repeat refine mf1B1 ?_
      first | exact trivial | exact rfl
     ·refine if_st H (fun h21 H => ?_) (fun h21 H => ?_)
      ·refine ob_ck H fun h22 H => ?_
       have hfin := fin_st H
       repeat refine mf1B1 ?_
       first | exact trivial | exact rfl
      ·refine if_st H (fun h23 H => ?_) (fun h23 H => ?_)
       ·have hfin := fin_st H
        repeat refine mf1B1 ?_
        first | exact trivial | exact rfl
       ·refine if_st H (fun h24 H => ?_) (fun h24 H => ?_)
        ·refine ob_ck H fun h25 H => ?_
         have hfin := fin_st H
         repeat refine mf1B1 ?_
         first | exact trivial | exact rfl
        ·refine if_st H (fun h26 H => ?_) (fun h26 H => ?_)
         ·have hfin := fin_st H
          repeat refine mf1B1 ?_
          first | exact trivial | exact rfl
         ·have hfin := fin_st H
          repeat refine mf1B1 ?_
          first | exact trivial | exact rfl
noncomputable def g128 (a0 : Int) : Option (Bool) :=
 if 0 ≤ a0 then
  (
   if a0 ≤ 1114111 then
    (
     if a0 < 55296 then
      some true
     else
      some (decide (57343 < a0))
    )
   else
    some false
  )
 else
  some false
noncomputable def k128 : Eng.CS := { f := 128, calm := true, more := 0, ι := Int × Bool, ok := fun i => g128 i.1 = some i.2, rds := fun _ => [], args := fun i => [.w (.v (.int .i32 (i.1)))], res := fun i => bS i.2 }
set_option maxRecDepth 8000 in
set_option maxHeartbeats 4000000 in
theorem k128_ok : CalmOk Try.prog k128 := by
 refine R.calmspec Try.func128 nm128 rfl ?_
 rintro ⟨a0, r⟩ hok q _ args hargs
 match args, hargs with
 | [_], hargs =>
 obtain ⟨rfl, _⟩ := hargs
 refine ⟨envC [] false [], 6, envC_ok (css_nil), rfl, (by intro x hx; simp only [List.mem_cons, List.not_mem_nil, or_false] at hx; rcases hx with rfl <;> rfl), ?_⟩
 have H : Gives (g128 a0) (fun a => a = r) := ⟨r, hok, rfl⟩
 unfold g128 at H
 clear hok
 refine if_st H (fun h27 H => ?_) (fun h27 H => ?_)
 ·refine if_st H (fun h28 H => ?_) (fun h28 H => ?_)
  ·refine if_st H (fun h29 H => ?_) (fun h29 H => ?_)
   ·have hfin := fin_st H
    repeat refine mf1B1 ?_
    first | exact trivial | exact rfl
   ·have hfin := fin_st H
    repeat refine mf1B1 ?_
    first | exact trivial | exact rfl
  ·have hfin := fin_st H
   repeat refine mf1B1 ?_
   first | exact trivial | exact rfl
 ·have hfin := fin_st H
  repeat refine mf1B1 ?_
  first | exact trivial | exact rfl
noncomputable def g129 (a0 : Int) (a1 : Int) : Option (Int) :=
 ck (0 ≤ a1 ∧ a1 ≤ ((IntKind.bits .i32 : Nat) : Int)) <|
 some (bits .or .u8 128 (bits .and .u8 (IntKind.wrap .u8 (a0 / 2 ^ a1.toNat)) 63))
noncomputable def k129 : Eng.CS := { f := 129, calm := true, more := 0, ι := Int × Int × Int, ok := fun i => g129 i.1 i.2.1 = some i.2.2, rds := fun _ => [], args := fun i => [.w (.v (.int .i32 (i.1))), .w (.v (.int .u64 (i.2.1)))], res := fun i => .v (.int .u8 (i.2.2)) }
set_option maxRecDepth 8000 in
set_option maxHeartbeats 4000000 in
theorem k129_ok : CalmOk Try.prog k129 := by
 refine R.calmspec Try.func129 nm129 rfl ?_
 rintro ⟨a0, a1, r⟩ hok q _ args hargs
 match args, hargs with
 | [_, _], hargs =>
 obtain ⟨rfl, rfl, _⟩ := hargs
 refine ⟨envC [] false [], 6, envC_ok (css_nil), rfl, (by intro x hx; simp only [List.mem_cons, List.not_mem_nil, or_false] at hx; rcases hx with rfl | rfl <;> rfl), ?_⟩
 have H : Gives (g129 a0 a1) (fun a => a = r) := ⟨r, hok, rfl⟩
 unfold g129 at H
 clear hok
 refine ob_ck H fun h30 H => ?_
 have hfin := fin_st H
 repeat refine mf1B1 ?_
 first | exact trivial | exact rfl
noncomputable def g131 (a0 : List Int) : Option (Int × Int × Bool) :=
 if ((a0.length : Nat) : Int) = 0 then
  some (0, 0, true)
 else
  (
   ck (0 ≤ (0 : Int) ∧ 0 < ((a0.length : Nat) : Int)) <|
   (g134 (a0.getD (0 : Int).toNat 0)).bind fun v34 =>
   if v34.1 = 0 then
    some (65533, 1, false)
   else
    (
     jn (α := _) (β := Int) (fun k107 =>
       (loopO (σ := Int × Int) (ρ := (Int × Int × Bool) ⊕ (Int)) (fun s110 =>
         if s110.2 < v34.1 then
          (
           if ((a0.length : Nat) : Int) ≤ s110.2 then
            some (.out (.inl ((0, 0, true))))
           else
            (
             jn (α := _) (β := Int × Int) (fun k143 =>
               if s110.2 = 1 then
                k143 (v34.2.1, v34.2.2.1)
               else
                k143 (128, 191)
             ) (fun v142 =>
              ck (0 ≤ s110.2 ∧ s110.2 < ((a0.length : Nat) : Int)) <|
              if (a0.getD s110.2.toNat 0) < v142.1 then
               some (.out (.inl ((65533, 1, false))))
              else
               (
                ck (0 ≤ s110.2 ∧ s110.2 < ((a0.length : Nat) : Int)) <|
                if v142.2 < (a0.getD s110.2.toNat 0) then
                 some (.out (.inl ((65533, 1, false))))
                else
                 (
                  ck (0 ≤ s110.2 ∧ s110.2 < ((a0.length : Nat) : Int)) <|
                  ck (inR .i32 (bits .and .u8 (a0.getD s110.2.toNat 0) 63)) <|
                  ck (inR .i64 (s110.2 + 1)) <|
                  some (.go (bits .or .i32 (IntKind.wrap .i32 (s110.1 * 2 ^ (6 : Int).toNat)) (bits .and .u8 (a0.getD s110.2.toNat 0) 63), s110.2 + 1))
                 )
               )
             )
            )
          )
         else
          some (.out (.inr (s110.1)))
        ) (v34.2.2.2, 1)).bind fun o138 =>
       sm o138 (fun o152 =>
         some (o152.1, o152.2.1, o152.2.2)
        ) (fun o153 =>
         k107 o153
        )
     ) (fun v106 =>
      some (v106, v34.1, false)
     )
    )
  )
noncomputable def k131 : Eng.CS := { f := 131, calm := true, more := 0, ι := (List Int) × (Int × Int × Bool), ok := fun i => g131 i.1 = some i.2, rds := fun _ => [], args := fun i => [.sl 1 i.1.length (ei .u8 i.1)], res := fun i => .tup [.v (.int .i32 (i.2.1)), .v (.int .i64 (i.2.2.1)), bS i.2.2.2] }
set_option maxRecDepth 8000 in
set_option maxHeartbeats 4000000 in
theorem k131_ok : CalmOk Try.prog k131 := by
 refine R.calmspec Try.func131 nm131 rfl ?_
 rintro ⟨a0, r⟩ hok q _ args hargs
 match args, hargs with
 | [_], hargs =>
 obtain ⟨⟨A0, cp0, rfl, hc0, _, hR0⟩, _⟩ := hargs
 refine ⟨envC [k134] false [(131, 15), (131, 18)], 6, envC_ok (css_cons ⟨fun _ => k134_ok, fun h => (by cases h)⟩ (css_nil)), rfl, (by intro x hx; simp only [List.mem_cons, List.not_mem_nil, or_false] at hx; rcases hx with rfl <;> rfl), ?_⟩
 have H : Gives (g131 a0) (fun a => a = r) := ⟨r, hok, rfl⟩
 unfold g131 at H
 clear hok
 refine if_st H (fun h32 H => ?_) (fun h32 H => ?_)
 ·have hfin := fin_st H
  repeat refine mf1B1 ?_
  first | exact trivial | exact rfl
 ·refine ob_ix hR0 (fun h => ei0 h) H fun h33 H => ?_
  refine ld_int (e := a0.getD (0 : Int).toNat 0) (rd_get hR0 (ei_get (l := a0) (tn h33))) ?_
  obtain ⟨v34, hv35, H⟩ := call_st H
  refine ⟨(a0.getD (0 : Int).toNat 0, v34), ⟨hv35⟩, ⟨trivial⟩, ?_⟩
  refine And.intro ⟨rfl⟩ ?_
  refine if_st H (fun h37 H => ?_) (fun h37 H => ?_)
  ·have hfin := fin_st H
   repeat refine mf1B1 ?_
   first | exact trivial | exact rfl
  ·refine R.cut_fam H 25 [5] [] (fun v106 => [(2, .v (.int .i32 (v106)))]) (fun v106 => []) [(10, .cells 146 [.v (.int .i64 (v34.1)), .v (.int .u8 (v34.2.1)), .v (.int .u8 (v34.2.2.1)), .v (.int .i32 (v34.2.2.2))])] 0 (fun H => ?_)
   refine And.intro ?_ ?_
   ·refine R.loop_fam (bind_st H) [0, 5] [] (fun _ s110 => [(2, .v (.int .i32 (s110.1))), (6, .v (.int .i64 (s110.2)))]) (fun _ s110 => []) 0 (fun n154 H => ?_)
    refine ⟨(n154, _), ⟨H⟩, ⟨trivial⟩, ?_⟩
    repeat refine mo1B1 ?_
    rintro ⟨m0, s110⟩ H _
    obtain ⟨m111, hm0, H⟩ := IG_succ H
    dsimp only at hm0
    subst hm0
    try dsimp only at H
    refine if_st H (fun h139 H => ?_) (fun h139 H => ?_)
    ·refine if_st H (fun h140 H => ?_) (fun h140 H => ?_)
     ·replace H := some_st H
      dsimp only [stp, sm] at H
      have hfin := fin_st H
      repeat refine mf1B1 ?_
      first | exact trivial | exact rfl
     ·refine R.cut_fam H 38 [0, 2, 5, 6] [] (fun v142 => [(7, .v (.int .u8 (v142.1))), (8, .v (.int .u8 (v142.2)))]) (fun v142 => []) [(10, .cells 146 [.v (.int .i64 (v34.1)), .v (.int .u8 (v34.2.1)), .v (.int .u8 (v34.2.2.1)), .v (.int .i32 (v34.2.2.2))])] 0 (fun H => ?_)
      refine And.intro ?_ ?_
      ·refine if_st H (fun h144 H => ?_) (fun h144 H => ?_)
       ·refine And.intro ⟨by kernel_rfl⟩ ?_
        refine ⟨(v34.2.1, v34.2.2.1), ⟨H⟩, ⟨rfl⟩, ?_⟩
        repeat refine mo1B1 ?_
        first | exact trivial | exact rfl
       ·refine ⟨(128, 191), ⟨H⟩, ⟨rfl⟩, ?_⟩
        repeat refine mo1B1 ?_
        first | exact trivial | exact rfl
      ·intro v142 H
       refine ob_ix hR0 (fun h => ei0 h) H fun h145 H => ?_
       refine ld_int (e := a0.getD s110.2.toNat 0) (rd_get hR0 (ei_get (l := a0) (tn h145))) ?_
       refine if_st H (fun h146 H => ?_) (fun h146 H => ?_)
       ·replace H := some_st H
        dsimp only [stp, sm] at H
        have hfin := fin_st H
        repeat refine mf1B1 ?_
        first | exact trivial | exact rfl
       ·refine ob_ix hR0 (fun h => ei0 h) H fun h147 H => ?_
        refine ld_int (e := a0.getD s110.2.toNat 0) (rd_get hR0 (ei_get (l := a0) (tn h147))) ?_
        refine if_st H (fun h148 H => ?_) (fun h148 H => ?_)
        ·replace H := some_st H
         dsimp only [stp, sm] at H
         have hfin := fin_st H
         repeat refine mf1B1 ?_
         first | exact trivial | exact rfl
        ·refine And.intro ⟨by decide⟩ ?_
         refine ob_ix hR0 (fun h => ei0 h) H fun h149 H => ?_
         refine ld_int (e := a0.getD s110.2.toNat 0) (rd_get hR0 (ei_get (l := a0) (tn h149))) ?_
         refine ob_ck H fun h150 H => ?_
         refine ob_ck H fun h151 H => ?_
         replace H := some_st H
         refine ⟨(m111, (bits .or .i32 (IntKind.wrap .i32 (s110.1 * 2 ^ (6 : Int).toNat)) (bits .and .u8 (a0.getD s110.2.toNat 0) 63), s110.2 + 1)), ⟨H, Nat.lt_succ_self _⟩, ⟨trivial⟩, ⟨rfl⟩, ?_⟩
         repeat refine mo1B1 ?_
         first | exact trivial | exact rfl
    ·replace H := some_st H
     dsimp only [stp, sm] at H
     refine ⟨s110.1, ⟨H⟩, ⟨rfl⟩, ?_⟩
     repeat refine mo1B1 ?_
     first | exact trivial | exact rfl
   ·intro v106 H
    refine And.intro ⟨by kernel_rfl⟩ ?_
    have hfin := fin_st H
    repeat refine mf1B1 ?_
    first | exact trivial | exact rfl
noncomputable def g86 (a0 : Int) : Option (Int) :=
 ck (inR .i32 (128 + (Int.tmod a0 64))) <|
 some (IntKind.wrap .u8 (128 + (Int.tmod a0 64)))
noncomputable def g85 (a0 : Int) : Option (Bool) :=
 if 0 ≤ a0 then
  (
   if a0 ≤ 1114111 then
    (
     if a0 < 55296 then
      some true
     else
      some (decide (57343 < a0))
    )
   else
    some false
  )
 else
  some false
noncomputable def g119 (a0 : Int) : Option (List Int) :=
 jn (α := _) (β := Int) (fun k166 =>
   (g128 a0).bind fun v167 =>
   if ¬ (v167 = true) then
    k166 65533
   else
    k166 a0
 ) (fun v165 =>
  if v165 < 128 then
   some ([IntKind.wrap .u8 v165])
  else
   (
    if v165 < 2048 then
     (
      (g129 v165 0).bind fun v181 =>
      some ([bits .or .u8 192 (IntKind.wrap .u8 (v165 / 2 ^ (6 : Int).toNat)), v181])
     )
    else
     (
      if v165 < 65536 then
       (
        (g129 v165 6).bind fun v184 =>
        (g129 v165 0).bind fun v186 =>
        some ([bits .or .u8 224 (IntKind.wrap .u8 (v165 / 2 ^ (12 : Int).toNat)), v184, v186])
       )
      else
       (
        (g129 v165 12).bind fun v188 =>
        (g129 v165 6).bind fun v190 =>
        (g129 v165 0).bind fun v192 =>
        some ([bits .or .u8 240 (IntKind.wrap .u8 (v165 / 2 ^ (18 : Int).toNat)), v188, v190, v192])
       )
     )
   )
 )
noncomputable def k119 : Eng.CS := { f := 119, calm := false, more := 1, ι := Int × List Int, ok := fun i => g119 i.1 = some i.2, rds := fun _ => [], args := fun i => [.w (.v (.int .i32 (i.1)))], res := fun i => .own 0, L' := fun i => [(0, .arr 5 1 i.2.length (ei .u8 i.2))], rn := [(0, 0, 5, 1)] }
set_option maxRecDepth 8000 in
set_option maxHeartbeats 4000000 in
theorem k119_ok : CSOk Try.prog k119 := by
 refine R.cspec Try.func119 nm119 rfl ?_
 rintro ⟨a0, r⟩ hok q _ args hargs
 match args, hargs with
 | [_], hargs =>
 obtain ⟨rfl, _⟩ := hargs
 refine ⟨envC [k128, k129] false [(119, 3)], 6, envC_ok (css_cons ⟨fun _ => k128_ok, fun h => (by cases h)⟩ (css_cons ⟨fun _ => k129_ok, fun h => (by cases h)⟩ (css_nil))), ?_⟩
 have H : Gives (g119 a0) (fun a => a = r) := ⟨r, hok, rfl⟩
 unfold g119 at H
 clear hok
 refine R.cut_fam H 6 [] [] (fun v165 => [(0, .v (.int .i32 (v165)))]) (fun v165 => []) [] 0 (fun H => ?_)
 refine And.intro ?_ ?_
 ·obtain ⟨v167, hv168, H⟩ := call_st H
  refine ⟨(a0, v167), ⟨hv168⟩, ⟨trivial⟩, ?_⟩
  refine And.intro ⟨rfl⟩ ?_
  refine if_st H (fun h169 H => ?_) (fun h169 H => ?_)
  ·refine ⟨65533, ⟨H⟩, ⟨rfl⟩, ?_⟩
   repeat refine mo1B1 ?_
   first | exact trivial | exact rfl
  ·refine ⟨a0, ⟨H⟩, ⟨rfl⟩, ?_⟩
   repeat refine mo1B1 ?_
   first | exact trivial | exact rfl
 ·intro v165 H
  refine if_st H (fun h179 H => ?_) (fun h179 H => ?_)
  ·have hfin := fin_st H
   repeat refine mf1B1 ?_
   first | exact trivial | exact rfl
  ·refine if_st H (fun h180 H => ?_) (fun h180 H => ?_)
   ·refine And.intro ⟨by decide⟩ ?_
    obtain ⟨v181, hv182, H⟩ := call_st H
    refine ⟨(v165, 0, v181), ⟨hv182⟩, ⟨trivial⟩, ?_⟩
    iterate 2 refine And.intro ⟨rfl⟩ ?_
    have hfin := fin_st H
    repeat refine mf1B1 ?_
    first | exact trivial | exact rfl
   ·refine if_st H (fun h183 H => ?_) (fun h183 H => ?_)
    ·refine And.intro ⟨by decide⟩ ?_
     obtain ⟨v184, hv185, H⟩ := call_st H
     refine ⟨(v165, 6, v184), ⟨hv185⟩, ⟨trivial⟩, ?_⟩
     iterate 2 refine And.intro ⟨rfl⟩ ?_
     obtain ⟨v186, hv187, H⟩ := call_st H
     refine ⟨(v165, 0, v186), ⟨hv187⟩, ⟨trivial⟩, ?_⟩
     iterate 2 refine And.intro ⟨rfl⟩ ?_
     have hfin := fin_st H
     repeat refine mf1B1 ?_
     first | exact trivial | exact rfl
    ·refine And.intro ⟨by decide⟩ ?_
     obtain ⟨v188, hv189, H⟩ := call_st H
     refine ⟨(v165, 12, v188), ⟨hv189⟩, ⟨trivial⟩, ?_⟩
     iterate 2 refine And.intro ⟨rfl⟩ ?_
     obtain ⟨v190, hv191, H⟩ := call_st H
     refine ⟨(v165, 6, v190), ⟨hv191⟩, ⟨trivial⟩, ?_⟩
     iterate 2 refine And.intro ⟨rfl⟩ ?_
     obtain ⟨v192, hv193, H⟩ := call_st H
     refine ⟨(v165, 0, v192), ⟨hv193⟩, ⟨trivial⟩, ?_⟩
     iterate 2 refine And.intro ⟨rfl⟩ ?_
     have hfin := fin_st H
     repeat refine mf1B1 ?_
     first | exact trivial | exact rfl
noncomputable def g51 (a0 : Int) : Option (List Int) :=
 jn (α := _) (β := Int) (fun k201 =>
   (g85 a0).bind fun v202 =>
   if ¬ (v202 = true) then
    k201 65533
   else
    k201 a0
 ) (fun v200 =>
  if v200 < 128 then
   some ([IntKind.wrap .u8 v200])
  else
   (
    if v200 < 2048 then
     (
      ck (inR .i32 (Int.tdiv v200 64)) <|
      ck (inR .i32 (192 + (Int.tdiv v200 64))) <|
      (g86 v200).bind fun v223 =>
      some ([IntKind.wrap .u8 (192 + (Int.tdiv v200 64)), v223])
     )
    else
     (
      if v200 < 65536 then
       (
        ck (inR .i32 (Int.tdiv v200 4096)) <|
        ck (inR .i32 (224 + (Int.tdiv v200 4096))) <|
        ck (inR .i32 (Int.tdiv v200 64)) <|
        (g86 (Int.tdiv v200 64)).bind fun v229 =>
        (g86 v200).bind fun v231 =>
        some ([IntKind.wrap .u8 (224 + (Int.tdiv v200 4096)), v229, v231])
       )
      else
       (
        ck (inR .i32 (Int.tdiv v200 262144)) <|
        ck (inR .i32 (240 + (Int.tdiv v200 262144))) <|
        ck (inR .i32 (Int.tdiv v200 4096)) <|
        (g86 (Int.tdiv v200 4096)).bind fun v236 =>
        ck (inR .i32 (Int.tdiv v200 64)) <|
        (g86 (Int.tdiv v200 64)).bind fun v239 =>
        (g86 v200).bind fun v241 =>
        some ([IntKind.wrap .u8 (240 + (Int.tdiv v200 262144)), v236, v239, v241])
       )
     )
   )
 )
noncomputable def g105 (a0 : Int) : Option (Int) :=
 if a0 < 128 then
  some 1
 else
  (
   jn (α := _) (β := Bool) (fun k261 =>
     if 194 ≤ a0 then
      k261 (decide (a0 < 224))
     else
      k261 false
   ) (fun v260 =>
    if v260 = true then
     some 2
    else
     (
      if 224 ≤ a0 then
       (
        if a0 < 240 then
         some 3
        else
         (
          if 240 ≤ a0 then
           (
            if a0 < 245 then
             some 4
            else
             some 0
           )
          else
           some 0
         )
       )
      else
       (
        if 240 ≤ a0 then
         (
          if a0 < 245 then
           some 4
          else
           some 0
         )
        else
         some 0
       )
     )
   )
  )
noncomputable def g107 (a0 : List Int) : Option (Int) :=
 if ((a0.length : Nat) : Int) < 2 then
  (
   ck (0 ≤ (0 : Int) ∧ 0 < ((a0.length : Nat) : Int)) <|
   ck (inR .i32 (a0.getD (0 : Int).toNat 0)) <|
   some (a0.getD (0 : Int).toNat 0)
  )
 else
  (
   if 4 < ((a0.length : Nat) : Int) then
    (
     ck (0 ≤ (0 : Int) ∧ 0 < ((a0.length : Nat) : Int)) <|
     ck (inR .i32 (a0.getD (0 : Int).toNat 0)) <|
     some (a0.getD (0 : Int).toNat 0)
    )
   else
    (
     ck (0 ≤ (0 : Int) ∧ 0 < ((a0.length : Nat) : Int)) <|
     ck (inR .i64 (a0.getD (0 : Int).toNat 0)) <|
     ck (0 ≤ ((a0.length : Nat) : Int) ∧ ((a0.length : Nat) : Int) < ((5 : Nat) : Int)) <|
     ck (inR .i64 ((a0.getD (0 : Int).toNat 0) - (([0, 0, 192, 224, 240]).getD ((a0.length : Nat) : Int).toNat 0))) <|
     jn (α := _) (β := Int) (fun k317 =>
       (loopO (σ := Int × Int) (ρ := Int) (fun s320 =>
         if s320.2 < ((a0.length : Nat) : Int) then
          (
           ck (inR .i32 (s320.1 * 64)) <|
           ck (0 ≤ s320.2 ∧ s320.2 < ((a0.length : Nat) : Int)) <|
           ck (inR .i32 (Int.tmod (a0.getD s320.2.toNat 0) 64)) <|
           ck (inR .i32 ((s320.1 * 64) + (Int.tmod (a0.getD s320.2.toNat 0) 64))) <|
           ck (inR .i64 (s320.2 + 1)) <|
           some (.go ((s320.1 * 64) + (Int.tmod (a0.getD s320.2.toNat 0) 64), s320.2 + 1))
          )
         else
          some (.out s320.1)
        ) (IntKind.wrap .i32 ((a0.getD (0 : Int).toNat 0) - (([0, 0, 192, 224, 240]).getD ((a0.length : Nat) : Int).toNat 0)), 1)).bind fun o334 =>
        k317 o334
     ) (fun v316 =>
      some v316
     )
    )
  )
noncomputable def k107 : Eng.CS := { f := 107, calm := true, more := 0, ι := (List Int) × Int, ok := fun i => g107 i.1 = some i.2, rds := fun _ => [], args := fun i => [.sl 1 i.1.length (ei .u8 i.1)], res := fun i => .v (.int .i32 (i.2)) }
noncomputable def g122 (a0 : List Int) : Option (Bool) :=
 jn (α := _) (β := Unit) (fun k377 =>
   (loopO (σ := Int) (ρ := (Unit) ⊕ (Unit)) (fun s380 =>
     if s380 < ((a0.length : Nat) : Int) then
      (
       ck (0 ≤ s380 ∧ s380 < ((a0.length : Nat) : Int)) <|
       if (a0.getD s380.toNat 0) < 128 then
        some (.out (.inl (())))
       else
        (
         ck (0 ≤ s380 ∧ s380 < ((a0.length : Nat) : Int)) <|
         if 191 < (a0.getD s380.toNat 0) then
          some (.out (.inl (())))
         else
          (
           ck (inR .i64 (s380 + 1)) <|
           some (.go (s380 + 1))
          )
        )
      )
     else
      some (.out (.inr (())))
    ) 1).bind fun o394 =>
   sm o394 (fun o401 =>
     some false
    ) (fun o402 =>
     k377 ()
    )
 ) (fun v376 =>
  some true
 )
noncomputable def g106 (a0 : List Int) : Option (Bool) :=
 ck (0 ≤ (0 : Int) ∧ 0 < ((a0.length : Nat) : Int)) <|
 (g105 (a0.getD (0 : Int).toNat 0)).bind fun v405 =>
 if v405 < ((a0.length : Nat) : Int) then
  some false
 else
  (
   (g122 a0).bind fun v415 =>
   if ¬ (v415 = true) then
    some false
   else
    (
     ck ((0 + a0.length) * 1 ≤ 140737488355328) <|
     ck ((0 + a0.length) * 1 ≤ 140737488355328) <|
     jn (α := _) (β := List Int × List Int) (fun k469 =>
       (loopO (σ := List Int × List Int) (ρ := List Int × List Int) (fun s472 =>
         if ((s472.1.length : Nat) : Int) < v405 then
          (
           ck ((s472.1.length + 1) * 1 ≤ 140737488355328) <|
           ck ((s472.2.length + 1) * 1 ≤ 140737488355328) <|
           some (.go ((s472.1 ++ [128]), (s472.2 ++ [191])))
          )
         else
          some (.out (s472.1, s472.2))
        ) (([] ++ a0), ([] ++ a0))).bind fun o496 =>
        k469 (o496.1, o496.2)
     ) (fun v468 =>
      (g107 v468.1).bind fun v509 =>
      (g107 v468.2).bind fun v511 =>
      ck (0 ≤ v405 ∧ v405 < ((5 : Nat) : Int)) <|
      if (([0, 0, 128, 2048, 65536]).getD v405.toNat 0) ≤ v511 then
       (
        if v509 ≤ 1114111 then
         (
          if v509 < 55296 then
           some true
          else
           some (decide (57343 < v511))
         )
        else
         some false
       )
      else
       some false
     )
    )
  )
noncomputable def k106 : Eng.CS := { f := 106, calm := true, more := 0, ι := (List Int) × Bool, ok := fun i => g106 i.1 = some i.2, rds := fun _ => [], args := fun i => [.sl 1 i.1.length (ei .u8 i.1)], res := fun i => bS i.2 }
noncomputable def g84 (a0 : List Int) : Option (Int × Int × Bool) :=
 if ((a0.length : Nat) : Int) = 0 then
  some (0, 0, true)
 else
  (
   ck (0 ≤ (0 : Int) ∧ 0 < ((a0.length : Nat) : Int)) <|
   (g105 (a0.getD (0 : Int).toNat 0)).bind fun v520 =>
   jn (α := _) (β := Bool) (fun k564 =>
     if 0 < v520 then
      (
       if v520 ≤ ((a0.length : Nat) : Int) then
        (
         ck (0 ≤ (0 : Int) ∧ (0 : Int) ≤ v520 ∧ v520 ≤ ((a0.length : Nat) : Int)) <|
         (g106 ((a0.drop (0 : Int).toNat).take (v520.toNat - (0 : Int).toNat))).bind fun v571 =>
         k564 v571
        )
       else
        k564 false
      )
     else
      k564 false
   ) (fun v563 =>
    if v563 = true then
     (
      ck (0 ≤ (0 : Int) ∧ (0 : Int) ≤ v520 ∧ v520 ≤ ((a0.length : Nat) : Int)) <|
      (g107 ((a0.drop (0 : Int).toNat).take (v520.toNat - (0 : Int).toNat))).bind fun v578 =>
      some (v578, v520, false)
     )
    else
     (
      if 0 < v520 then
       (
        if ((a0.length : Nat) : Int) < v520 then
         (
          (g106 a0).bind fun v591 =>
          if v591 = true then
           some (0, 0, true)
          else
           some (65533, 1, false)
         )
        else
         some (65533, 1, false)
       )
      else
       some (65533, 1, false)
     )
   )
  )
end Go.Proofs.Ytenjkphlbdhaiaa
end
section
namespace Go.Proofs.Ytenjkphlbdhaiaa
open Go Go.Eng
noncomputable def g50 (a0 : List Int) : Option (List Int × List Int) :=
 jn (α := _) (β := List Int × List Int) (fun k100 =>
   (loopO (σ := List Int × List Int × Int) (ρ := List Int × List Int) (fun s103 =>
     if s103.2.2 < ((a0.length : Nat) : Int) then
      (
       ck (0 ≤ s103.2.2 ∧ s103.2.2 ≤ ((a0.length : Nat) : Int) ∧ ((a0.length : Nat) : Int) ≤ ((a0.length : Nat) : Int)) <|
       (g84 ((a0.drop s103.2.2.toNat).take (((a0.length : Nat) : Int).toNat - s103.2.2.toNat))).bind fun v171 =>
       if v171.2.2 = true then
        (
         ck ((s103.1.length + 1) * 4 ≤ 140737488355328) <|
         ck ((s103.2.1.length + 1) * 8 ≤ 140737488355328) <|
         ck (inR .i64 (s103.2.2 + 1)) <|
         some (.go ((s103.1 ++ [65533]), (s103.2.1 ++ [s103.2.2]), s103.2.2 + 1))
        )
       else
        (
         ck ((s103.1.length + 1) * 4 ≤ 140737488355328) <|
         ck ((s103.2.1.length + 1) * 8 ≤ 140737488355328) <|
         ck (inR .i64 (s103.2.2 + v171.2.1)) <|
         some (.go ((s103.1 ++ [v171.1]), (s103.2.1 ++ [s103.2.2]), s103.2.2 + v171.2.1))
        )
      )
     else
      some (.out (s103.1, s103.2.1))
    ) ([], [], 0)).bind fun o165 =>
    k100 (o165.1, o165.2)
 ) (fun v99 =>
  some (v99.1, v99.2)
 )
def c135 (p : (Int × Int)) : List Value := [.int .i32 p.1, .int .i32 p.2]
theorem mo2B2 {p q : Prop} (k : q) (h : p := by first | exact rfl | exact Iff.rfl | exact ⟨rfl, rfl⟩ | exact decide_eq_true_iff | (constructor <;> first | exact rfl | (simp only [ei, eb, es, ec, c135, gmin, gmax, List.map_append, List.flatMap_append, List.nil_append, List.append_nil, List.append_assoc]; done) | omega | (simp only [List.nil_append, List.length_append, List.length_cons, List.length_nil]; omega) | (simp [ei, eb, es, ec, c135, gmin, gmax]; done)) | exact rfl | (simp only [ei, eb, es, ec, c135, gmin, gmax, List.map_append, List.flatMap_append, List.nil_append, List.append_nil, List.append_assoc]; done) | omega | (simp only [List.nil_append, List.length_append, List.length_cons, List.length_nil]; omega) | (simp [ei, eb, es, ec, c135, gmin, gmax]; done) | simp [ei, eb, es, ec, c135, gmin, gmax]) : Ob p ∧ q := ⟨⟨h⟩, k⟩
theorem mf2B2 {p q : Prop} (k : q) (h : p := by first | (rw [← hfin] <;> first | exact rfl | exact Iff.rfl | exact ⟨rfl, rfl⟩ | exact decide_eq_true_iff | (constructor <;> first | exact rfl | (simp only [ei, eb, es, ec, c135, gmin, gmax, List.map_append, List.flatMap_append, List.nil_append, List.append_nil, List.append_assoc]; done) | omega | (simp only [List.nil_append, List.length_append, List.length_cons, List.length_nil]; omega) | (simp [ei, eb, es, ec, c135, gmin, gmax]; done)) | exact rfl | (simp only [ei, eb, es, ec, c135, gmin, gmax, List.map_append, List.flatMap_append, List.nil_append, List.append_nil, List.append_assoc]; done) | omega | (simp only [List.nil_append, List.length_append, List.length_cons, List.length_nil]; omega) | (simp [ei, eb, es, ec, c135, gmin, gmax]; done) | simp [ei, eb, es, ec, c135, gmin, gmax]) | first | exact rfl | exact Iff.rfl | exact ⟨rfl, rfl⟩ | exact decide_eq_true_iff | (constructor <;> first | exact rfl | (simp only [ei, eb, es, ec, c135, gmin, gmax, List.map_append, List.flatMap_append, List.nil_append, List.append_nil, List.append_assoc]; done) | omega | (simp only [List.nil_append, List.length_append, List.length_cons, List.length_nil]; omega) | (simp [ei, eb, es, ec, c135, gmin, gmax]; done)) | exact rfl | (simp only [ei, eb, es, ec, c135, gmin, gmax, List.map_append, List.flatMap_append, List.nil_append, List.append_nil, List.append_assoc]; done) | omega | (simp only [List.nil_append, List.length_append, List.length_cons, List.length_nil]; omega) | (simp [ei, eb, es, ec, c135, gmin, gmax]; done) | simp [ei, eb, es, ec, c135, gmin, gmax]) : Ob p ∧ q := ⟨⟨h⟩, k⟩
noncomputable def g109  : Option (List (Int × Int)) :=
 some ([(768, 879), (1155, 1161), (1425, 1469), (1471, 1471), (1473, 1474), (1476, 1477), (1479, 1479), (1552, 1562), (1611, 1631), (1648, 1648), (1750, 1756), (1759, 1764), (1767, 1768), (1770, 1773), (3633, 3633), (3636, 3642), (3655, 3662), (6832, 6911), (7616, 7679), (8203, 8207), (8288, 8292), (8400, 8432), (12330, 12333), (12441, 12442), (65024, 65039), (65056, 65071), (65279, 65279), (917760, 917999)])
noncomputable def g110  : Option (List (Int × Int)) :=
 some ([(4352, 4447), (8986, 8987), (9001, 9002), (9193, 9196), (9200, 9200), (9203, 9203), (9725, 9726), (9748, 9749), (9800, 9811), (9855, 9855), (9875, 9875), (9889, 9889), (9898, 9899), (9917, 9918), (9924, 9925), (9934, 9934), (9940, 9940), (9962, 9962), (9970, 9971), (9973, 9973), (9978, 9978), (9981, 9981), (9989, 9989), (9994, 9995), (10024, 10024), (10060, 10060), (10062, 10062), (10067, 10069), (10071, 10071), (10133, 10135), (10160, 10160), (10175, 10175), (11035, 11036), (11088, 11088), (11093, 11093), (11904, 12350), (12353, 19903), (19968, 42191), (43360, 43391), (44032, 55203), (63744, 64255), (65040, 65049), (65072, 65135), (65281, 65376), (65504, 65510), (127744, 128591), (128640, 128767), (129280, 129535), (129648, 129791), (131072, 196605), (196608, 262141)])
noncomputable def g108 (a0 : List (Int × Int)) (a1 : Int) : Option (Bool) :=
 jn (α := _) (β := Unit) (fun k235 =>
   (loopO (σ := Int) (ρ := (Unit) ⊕ (Unit)) (fun s238 =>
     if s238 < ((a0.length : Nat) : Int) then
      (
       ck (0 ≤ s238 ∧ s238 < ((a0.length : Nat) : Int)) <|
       if ((a0.getD s238.toNat default).1) ≤ a1 then
        (
         ck (0 ≤ s238 ∧ s238 < ((a0.length : Nat) : Int)) <|
         if a1 ≤ ((a0.getD s238.toNat default).2) then
          some (.out (.inl (())))
         else
          (
           ck (inR .i64 (s238 + 1)) <|
           some (.go (s238 + 1))
          )
        )
       else
        (
         ck (inR .i64 (s238 + 1)) <|
         some (.go (s238 + 1))
        )
      )
     else
      some (.out (.inr (())))
    ) 0).bind fun o254 =>
   sm o254 (fun o262 =>
     some true
    ) (fun o263 =>
     k235 ()
    )
 ) (fun v234 =>
  some false
 )
noncomputable def g87 (a0 : Int) : Option (Bool) :=
 if 0 ≤ a0 then
  (
   if a0 ≤ 1114111 then
    (
     if 55296 ≤ a0 then
      some (decide (¬ (a0 ≤ 57343)))
     else
      some true
    )
   else
    some false
  )
 else
  some false
noncomputable def k87 : Eng.CS := { f := 87, calm := true, more := 0, ι := Int × Bool, ok := fun i => g87 i.1 = some i.2, rds := fun _ => [], args := fun i => [.w (.v (.int .i32 (i.1)))], res := fun i => bS i.2 }
noncomputable def g88 (a0 : Int) : Option (Bool) :=
 if 0 ≤ a0 then
  (
   if a0 ≤ 31 then
    some true
   else
    (
     if 127 ≤ a0 then
      some (decide (a0 ≤ 159))
     else
      some false
    )
  )
 else
  (
   if 127 ≤ a0 then
    some (decide (a0 ≤ 159))
   else
    some false
  )
noncomputable def g89 (a0 : Int) : Option (Bool) :=
 (g109).bind fun v272 =>
 (g108 v272 a0).bind fun v274 =>
 some v274
noncomputable def g90 (a0 : Int) : Option (Bool) :=
 (g89 a0).bind fun v276 =>
 if ¬ (v276 = true) then
  (
   (g110).bind fun v279 =>
   (g108 v279 a0).bind fun v281 =>
   some v281
  )
 else
  some false
noncomputable def g52 (a0 : Int) : Option (Int) :=
 (g87 a0).bind fun v300 =>
 if ¬ (v300 = true) then
  some 0
 else
  (
   (g88 a0).bind fun v303 =>
   if v303 = true then
    some 0
   else
    (
     (g89 a0).bind fun v306 =>
     if v306 = true then
      some 0
     else
      (
       (g90 a0).bind fun v312 =>
       if v312 = true then
        some 2
       else
        some 1
      )
    )
  )
noncomputable def g91 (a0 : Int) : Option (Bool) :=
 if 0 ≤ a0 then
  (
   if a0 ≤ 31 then
    some true
   else
    (
     if 127 ≤ a0 then
      some (decide (a0 ≤ 159))
     else
      some false
    )
  )
 else
  (
   if 127 ≤ a0 then
    some (decide (a0 ≤ 159))
   else
    some false
  )
noncomputable def g53 (a0 : Int) : Option (Bool) :=
 (g52 a0).bind fun v319 =>
 if v319 = 0 then
  (
   (g85 a0).bind fun v322 =>
   if v322 = true then
    (
     (g91 a0).bind fun v325 =>
     some (decide (¬ (v325 = true)))
    )
   else
    some false
  )
 else
  some false
noncomputable def g15 (a0 : ByteArray) : Option (List ByteArray) :=
 ck (a0.size ≤ 140737488355328) <|
 (g50 (bytesOf a0)).bind fun v336 =>
 jn (α := _) (β := List ByteArray) (fun k465 =>
   (loopO (σ := List ByteArray × Int) (ρ := List ByteArray) (fun s468 =>
     if s468.2 < ((v336.1.length : Nat) : Int) then
      (
       ck (0 ≤ s468.2 ∧ s468.2 < ((v336.1.length : Nat) : Int)) <|
       (g51 (v336.1.getD s468.2.toNat 0)).bind fun v532 =>
       ck (isBytes v532) <|
       ck (inR .i64 (((s468.1.length : Nat) : Int) - 1)) <|
       ck (0 ≤ s468.2 ∧ s468.2 < ((v336.1.length : Nat) : Int)) <|
       (g52 (v336.1.getD s468.2.toNat 0)).bind fun v537 =>
       if 0 < v537 then
        (
         ck ((s468.1.length + 1) * 16 ≤ 140737488355328) <|
         ck (inR .i64 (s468.2 + 1)) <|
         some (.go ((s468.1 ++ [strOf v532]), s468.2 + 1))
        )
       else
        (
         ck (0 ≤ s468.2 ∧ s468.2 < ((v336.1.length : Nat) : Int)) <|
         (g53 (v336.1.getD s468.2.toNat 0)).bind fun v547 =>
         if v547 = true then
          (
           if 0 ≤ (((s468.1.length : Nat) : Int) - 1) then
            (
             ck (0 ≤ ((s468.1.length : Nat) : Int) - 1 ∧ ((s468.1.length : Nat) : Int) - 1 < ((s468.1.length : Nat) : Int)) <|
             ck (inR .i64 (((s468.1.getD (((s468.1.length : Nat) : Int) - 1).toNat default).size : Int) + ((strOf v532).size : Int))) <|
             if (((s468.1.getD (((s468.1.length : Nat) : Int) - 1).toNat default).size : Int) + ((strOf v532).size : Int)) ≤ 64 then
              (
               ck (0 ≤ ((s468.1.length : Nat) : Int) - 1 ∧ ((s468.1.length : Nat) : Int) - 1 < ((s468.1.length : Nat) : Int)) <|
               ck ((s468.1.getD (((s468.1.length : Nat) : Int) - 1).toNat default).size + (strOf v532).size ≤ 9223372036854775807) <|
               ck (0 ≤ ((s468.1.length : Nat) : Int) - 1 ∧ ((s468.1.length : Nat) : Int) - 1 < ((s468.1.length : Nat) : Int)) <|
               ck (inR .i64 (s468.2 + 1)) <|
               some (.go ((s468.1.set (((s468.1.length : Nat) : Int) - 1).toNat ((s468.1.getD (((s468.1.length : Nat) : Int) - 1).toNat default) ++ (strOf v532))), s468.2 + 1))
              )
             else
              (
               ck (inR .i64 (s468.2 + 1)) <|
               some (.go (s468.1, s468.2 + 1))
              )
            )
           else
            (
             ck (inR .i64 (s468.2 + 1)) <|
             some (.go (s468.1, s468.2 + 1))
            )
          )
         else
          (
           ck (inR .i64 (s468.2 + 1)) <|
           some (.go (s468.1, s468.2 + 1))
          )
        )
      )
     else
      some (.out s468.1)
    ) ([], 0)).bind fun o529 =>
    k465 o529
 ) (fun v464 =>
  some v464
 )
noncomputable def g14 (a0 : List ByteArray) (a1 : List ByteArray) : Option (Bool) :=
 if ¬ ((a0.length : Nat) : Int) = ((a1.length : Nat) : Int) then
  some false
 else
  (
   jn (α := _) (β := Unit) (fun k597 =>
     (loopO (σ := Int) (ρ := (Unit) ⊕ (Unit)) (fun s600 =>
       if s600 < ((a0.length : Nat) : Int) then
        (
         ck (0 ≤ s600 ∧ s600 < ((a0.length : Nat) : Int)) <|
         ck (0 ≤ s600 ∧ s600 < ((a1.length : Nat) : Int)) <|
         if ¬ ((a0.getD s600.toNat default).data.toList = (a1.getD s600.toNat default).data.toList) then
          some (.out (.inl (())))
         else
          (
           ck (inR .i64 (s600 + 1)) <|
           some (.go (s600 + 1))
          )
        )
       else
        some (.out (.inr (())))
      ) 0).bind fun o612 =>
     sm o612 (fun o618 =>
       some false
      ) (fun o619 =>
       k597 ()
      )
   ) (fun v596 =>
    some true
   )
  )
noncomputable def g132  : Option (List Int) :=
 some ([768, 879, 1155, 1161, 1425, 1469, 1471, 1471, 1473, 1474, 1476, 1477, 1479, 1479, 1552, 1562, 1611, 1631, 1648, 1648, 1750, 1756, 1759, 1764, 1767, 1768, 1770, 1773, 3633, 3633, 3636, 3642, 3655, 3662, 6832, 6911, 7616, 7679, 8203, 8207, 8288, 8292, 8400, 8432, 12330, 12333, 12441, 12442, 65024, 65039, 65056, 65071, 65279, 65279, 917760, 917999])
noncomputable def k132 : Eng.CS := { f := 132, calm := false, more := 1, ι := List Int, ok := fun i => g132  = some i, rds := fun _ => [], args := fun i => [], res := fun i => .own 0, L' := fun i => [(0, .arr 21 1 i.length (ei .i32 i))], rn := [(0, 0, 21, 1)] }
set_option maxRecDepth 60000 in
set_option maxHeartbeats 4000000 in
theorem k132_ok : CSOk Try.prog k132 := by
 refine R.cspec Try.func132 nm132 rfl ?_
 rintro r hok q _ args hargs
 match args, hargs with
 | [], hargs =>
 refine ⟨envC [] false [], 6, envC_ok (css_nil), ?_⟩
 have H : Gives (g132 ) (fun a => a = r) := ⟨r, hok, rfl⟩
 unfold g132 at H
 clear hok
 have hfin := fin_st H
 repeat refine mf2B2 ?_
 first | exact trivial | exact rfl
noncomputable def g127  : Option (List Int) :=
 some ([4352, 4447, 8986, 8987, 9001, 9002, 9193, 9196, 9200, 9200, 9203, 9203, 9725, 9726, 9748, 9749, 9800, 9811, 9855, 9855, 9875, 9875, 9889, 9889, 9898, 9899, 9917, 9918, 9924, 9925, 9934, 9934, 9940, 9940, 9962, 9962, 9970, 9971, 9973, 9973, 9978, 9978, 9981, 9981, 9989, 9989, 9994, 9995, 10024, 10024, 10060, 10060, 10062, 10062, 10067, 10069, 10071, 10071, 10133, 10135, 10160, 10160, 10175, 10175, 11035, 11036, 11088, 11088, 11093, 11093, 11904, 12350, 12353, 19903, 19968, 42191, 43360, 43391, 44032, 55203, 63744, 64255, 65040, 65049, 65072, 65135, 65281, 65376, 65504, 65510, 127744, 128591, 128640, 128767, 129280, 129535, 129648, 129791, 131072, 196605, 196608, 262141])
noncomputable def k127 : Eng.CS := { f := 127, calm := false, more := 1, ι := List Int, ok := fun i => g127  = some i, rds := fun _ => [], args := fun i => [], res := fun i => .own 0, L' := fun i => [(0, .arr 21 1 i.length (ei .i32 i))], rn := [(0, 0, 21, 1)] }
set_option maxRecDepth 60000 in
set_option maxHeartbeats 4000000 in
theorem k127_ok : CSOk Try.prog k127 := by
 refine R.cspec Try.func127 nm127 rfl ?_
 rintro r hok q _ args hargs
 match args, hargs with
 | [], hargs =>
 refine ⟨envC [] false [], 6, envC_ok (css_nil), ?_⟩
 have H : Gives (g127 ) (fun a => a = r) := ⟨r, hok, rfl⟩
 unfold g127 at H
 clear hok
 have hfin := fin_st H
 repeat refine mf2B2 ?_
 first | exact trivial | exact rfl
noncomputable def g98 (a0 : Int) : Option (Bool) :=
 if 0 ≤ a0 then
  (
   if a0 ≤ 31 then
    some true
   else
    (
     if 127 ≤ a0 then
      some (decide (a0 ≤ 159))
     else
      some false
    )
  )
 else
  (
   if 127 ≤ a0 then
    some (decide (a0 ≤ 159))
   else
    some false
  )
noncomputable def k98 : Eng.CS := { f := 98, calm := true, more := 0, ι := Int × Bool, ok := fun i => g98 i.1 = some i.2, rds := fun _ => [], args := fun i => [.w (.v (.int .i32 (i.1)))], res := fun i => bS i.2 }
set_option maxRecDepth 8000 in
set_option maxHeartbeats 4000000 in
theorem k98_ok : CalmOk Try.prog k98 := by
 refine R.calmspec Try.func98 nm98 rfl ?_
 rintro ⟨a0, r⟩ hok q _ args hargs
 match args, hargs with
 | [_], hargs =>
 obtain ⟨rfl, _⟩ := hargs
 refine ⟨envC [] false [], 6, envC_ok (css_nil), rfl, (by intro x hx; simp only [List.mem_cons, List.not_mem_nil, or_false] at hx; rcases hx with rfl <;> rfl), ?_⟩
 have H : Gives (g98 a0) (fun a => a = r) := ⟨r, hok, rfl⟩
 unfold g98 at H
 clear hok
 refine if_st H (fun h621 H => ?_) (fun h621 H => ?_)
 ·refine if_st H (fun h622 H => ?_) (fun h622 H => ?_)
  ·have hfin := fin_st H
   repeat refine mf2B2 ?_
   first | exact trivial | exact rfl
  ·refine if_st H (fun h623 H => ?_) (fun h623 H => ?_)
   ·have hfin := fin_st H
    repeat refine mf2B2 ?_
    first | exact trivial | exact rfl
   ·have hfin := fin_st H
    repeat refine mf2B2 ?_
    first | exact trivial | exact rfl
 ·refine if_st H (fun h624 H => ?_) (fun h624 H => ?_)
  ·have hfin := fin_st H
   repeat refine mf2B2 ?_
   first | exact trivial | exact rfl
  ·have hfin := fin_st H
   repeat refine mf2B2 ?_
   first | exact trivial | exact rfl
noncomputable def g114 (a0 : Int) : Option (Bool) :=
 if 0 ≤ a0 then
  (
   if a0 ≤ 1114111 then
    (
     if a0 < 55296 then
      some true
     else
      some (decide (57343 < a0))
    )
   else
    some false
  )
 else
  some false
noncomputable def k114 : Eng.CS := { f := 114, calm := true, more := 0, ι := Int × Bool, ok := fun i => g114 i.1 = some i.2, rds := fun _ => [], args := fun i => [.w (.v (.int .i32 (i.1)))], res := fun i => bS i.2 }
set_option maxRecDepth 8000 in
set_option maxHeartbeats 4000000 in
theorem k114_ok : CalmOk Try.prog k114 := by
 refine R.calmspec Try.func114 nm114 rfl ?_
 rintro ⟨a0, r⟩ hok q _ args hargs
 match args, hargs with
 | [_], hargs =>
 obtain ⟨rfl, _⟩ := hargs
 refine ⟨envC [] false [], 6, envC_ok (css_nil), rfl, (by intro x hx; simp only [List.mem_cons, List.not_mem_nil, or_false] at hx; rcases hx with rfl <;> rfl), ?_⟩
 have H : Gives (g114 a0) (fun a => a = r) := ⟨r, hok, rfl⟩
 unfold g114 at H
 clear hok
 refine if_st H (fun h625 H => ?_) (fun h625 H => ?_)
 ·refine if_st H (fun h626 H => ?_) (fun h626 H => ?_)
  ·refine if_st H (fun h627 H => ?_) (fun h627 H => ?_)
   ·have hfin := fin_st H
    repeat refine mf2B2 ?_
    first | exact trivial | exact rfl
   ·have hfin := fin_st H
    repeat refine mf2B2 ?_
    first | exact trivial | exact rfl
  ·have hfin := fin_st H
   repeat refine mf2B2 ?_
   first | exact trivial | exact rfl
 ·have hfin := fin_st H
  repeat refine mf2B2 ?_
  first | exact trivial | exact rfl
noncomputable def g115 (a0 : Int) : Option (Bool) :=
 (g132).bind fun v628 =>
 jn (α := _) (β := Unit) (fun k671 =>
   (loopO (σ := Int) (ρ := (Bool) ⊕ (Unit)) (fun s674 =>
     ck (inR .i64 (s674 + 1)) <|
     if (s674 + 1) < ((v628.length : Nat) : Int) then
      (
       ck (0 ≤ s674 ∧ s674 < ((v628.length : Nat) : Int)) <|
       ck (inR .i64 (s674 + 1)) <|
       ck (0 ≤ s674 + 1 ∧ s674 + 1 < ((v628.length : Nat) : Int)) <|
       if a0 < (v628.getD s674.toNat 0) then
        some (.out (.inl (false)))
       else
        (
         if a0 ≤ (v628.getD (s674 + 1).toNat 0) then
          some (.out (.inl (true)))
         else
          (
           ck (inR .i64 (s674 + 2)) <|
           some (.go (s674 + 2))
          )
        )
      )
     else
      some (.out (.inr (())))
    ) 0).bind fun o692 =>
   sm o692 (fun o701 =>
     some o701
    ) (fun o702 =>
     k671 ()
    )
 ) (fun v670 =>
  some false
 )
noncomputable def k115 : Eng.CS := { f := 115, calm := true, more := 0, ι := Int × Bool, ok := fun i => g115 i.1 = some i.2, rds := fun _ => [], args := fun i => [.w (.v (.int .i32 (i.1)))], res := fun i => bS i.2 }
set_option maxRecDepth 8000 in
set_option maxHeartbeats 4000000 in
theorem k115_ok : CalmOk Try.prog k115 := by
 refine R.calmspec Try.func115 nm115 rfl ?_
 rintro ⟨a0, r⟩ hok q _ args hargs
 match args, hargs with
 | [_], hargs =>
 obtain ⟨rfl, _⟩ := hargs
 refine ⟨envC [k132] false [(116, 8)], 6, envC_ok (css_cons ⟨fun h => (by cases h), fun _ => k132_ok⟩ (css_nil)), rfl, (by intro x hx; simp only [List.mem_cons, List.not_mem_nil, or_false] at hx; rcases hx with rfl <;> rfl), ?_⟩
 have H : Gives (g115 a0) (fun a => a = r) := ⟨r, hok, rfl⟩
 unfold g115 at H
 clear hok
 obtain ⟨v628, hv629, H⟩ := call_st H
 refine ⟨v628, ⟨hv629⟩, ⟨trivial⟩, ?_⟩
 refine R.cut_fam H 27 [4] [] (fun v670 => []) (fun v670 => []) [(9, .arr 21 1 (v628.length) (ei .i32 (v628))), (10, .cells 79 [.own 9]), (14, .cells 21 [.v (.int .i32 (a0))]), (15, .cells 4 [.bb false])] 0 (fun H => ?_)
 refine And.intro ?_ ?_
 ·refine R.loop_fam (bind_st H) [0, 1] [] (fun _ s674 => [(3, .v (.int .i64 (s674)))]) (fun _ s674 => []) 0 (fun n703 H => ?_)
  refine ⟨(n703, _), ⟨H⟩, ⟨trivial⟩, ?_⟩
  repeat refine mo2B2 ?_
  rintro ⟨m0, s674⟩ H _
  obtain ⟨m675, hm0, H⟩ := IG_succ H
  dsimp only at hm0
  subst hm0
  try dsimp only at H
  refine ob_ck H fun h693 H => ?_
  refine if_st H (fun h694 H => ?_) (fun h694 H => ?_)
  ·refine And.intro ⟨by kernel_rfl⟩ ?_
   refine ⟨(Pn.calm 0 (Pn.calm 1 (Pn.calm 2 (Pn.calm 3 (Pn.calm 4 (Pn.calm 5 (Pn.calm 6 (Pn.calm 7 (Pn.calm 8 (Pn.calm 9 (Pn.eff 10 [0, 4, 9, 3, 8, 1, 2, 5, 7, 6] (Pn.calm 11 Pn.done) Pn.no))))))))))), ⟨by kernel_rfl⟩, ?_⟩
   refine ob_ck H fun h695 H => ?_
   refine ld_int (e := v628.getD s674.toNat 0) (own_get (ys := ei .i32 v628) (by first | rfl | simp [ei, eb, es, ec, c135]) (ei_get (l := v628) (by first | exact tn h695 | (have := tn h695; simp at this ⊢; omega) | (have := tn h695; simp; omega)))) ?_
   refine ob_ck H fun h696 H => ?_
   refine ob_ck H fun h697 H => ?_
   refine ld_int (e := v628.getD (s674 + 1).toNat 0) (own_get (ys := ei .i32 v628) (by first | rfl | simp [ei, eb, es, ec, c135]) (ei_get (l := v628) (by first | exact tn h697 | (have := tn h697; simp at this ⊢; omega) | (have := tn h697; simp; omega)))) ?_
   refine And.intro ?_ trivial
   refine if_st H (fun h698 H => ?_) (fun h698 H => ?_)
   ·refine And.intro ⟨fun _ _ _ h => h⟩ ?_
    replace H := some_st H
    dsimp only [stp, sm] at H
    have hfin := fin_st H
    repeat refine mf2B2 ?_
    first | exact trivial | exact rfl
   ·refine if_st H (fun h699 H => ?_) (fun h699 H => ?_)
    ·refine And.intro ⟨fun _ _ _ h => h⟩ ?_
     replace H := some_st H
     dsimp only [stp, sm] at H
     have hfin := fin_st H
     repeat refine mf2B2 ?_
     first | exact trivial | exact rfl
    ·refine And.intro ⟨fun _ _ _ h => h⟩ ?_
     refine ob_ck H fun h700 H => ?_
     replace H := some_st H
     refine ⟨(m675, s674 + 2), ⟨H, Nat.lt_succ_self _⟩, ⟨trivial⟩, ⟨rfl⟩, ?_⟩
     repeat refine mo2B2 ?_
     first | exact trivial | exact rfl
  ·replace H := some_st H
   dsimp only [stp, sm] at H
   refine ⟨(), ⟨H⟩, ⟨rfl⟩, ?_⟩
   repeat refine mo2B2 ?_
   first | exact trivial | exact rfl
 ·intro v670 H
  have hfin := fin_st H
  repeat refine mf2B2 ?_
  first | exact trivial | exact rfl
noncomputable def g96 (a0 : Int) : Option (Int) :=
 jn (α := _) (β := Bool) (fun k885 =>
   (g114 a0).bind fun v886 =>
   if ¬ (v886 = true) then
    k885 true
   else
    (
     (g98 a0).bind fun v889 =>
     if v889 = true then
      k885 true
     else
      (
       (g115 a0).bind fun v892 =>
       k885 v892
      )
    )
 ) (fun v884 =>
  if v884 = true then
   some 0
  else
   (
    (g127).bind fun v895 =>
    jn (α := _) (β := Unit) (fun k930 =>
      (loopO (σ := Int) (ρ := (Bool) ⊕ (Unit)) (fun s933 =>
        ck (inR .i64 (s933 + 1)) <|
        if (s933 + 1) < ((v895.length : Nat) : Int) then
         (
          ck (0 ≤ s933 ∧ s933 < ((v895.length : Nat) : Int)) <|
          ck (inR .i64 (s933 + 1)) <|
          ck (0 ≤ s933 + 1 ∧ s933 + 1 < ((v895.length : Nat) : Int)) <|
          if a0 < (v895.getD s933.toNat 0) then
           some (.out (.inl (false)))
          else
           (
            if a0 ≤ (v895.getD (s933 + 1).toNat 0) then
             some (.out (.inl (true)))
            else
             (
              ck (inR .i64 (s933 + 2)) <|
              some (.go (s933 + 2))
             )
           )
         )
        else
         some (.out (.inr (())))
       ) 0).bind fun o951 =>
      sm o951 (fun o960 =>
        if o960 = true then
         some 2
        else
         some 1
       ) (fun o962 =>
        k930 ()
       )
    ) (fun v929 =>
     some 1
    )
   )
 )
noncomputable def k96 : Eng.CS := { f := 96, calm := true, more := 0, ι := Int × Int, ok := fun i => g96 i.1 = some i.2, rds := fun _ => [], args := fun i => [.w (.v (.int .i32 (i.1)))], res := fun i => .v (.int .i64 (i.2)) }
set_option maxRecDepth 8000 in
set_option maxHeartbeats 4000000 in
theorem k96_ok : CalmOk Try.prog k96 := by
 refine R.calmspec Try.func96 nm96 rfl ?_
 rintro ⟨a0, r⟩ hok q _ args hargs
 match args, hargs with
 | [_], hargs =>
 obtain ⟨rfl, _⟩ := hargs
 refine ⟨envC [k98, k114, k115, k127] false [(96, 2), (116, 8)], 6, envC_ok (css_cons ⟨fun _ => k98_ok, fun h => (by cases h)⟩ (css_cons ⟨fun _ => k114_ok, fun h => (by cases h)⟩ (css_cons ⟨fun _ => k115_ok, fun h => (by cases h)⟩ (css_cons ⟨fun h => (by cases h), fun _ => k127_ok⟩ (css_nil))))), rfl, (by intro x hx; simp only [List.mem_cons, List.not_mem_nil, or_false] at hx; rcases hx with rfl <;> rfl), ?_⟩
 have H : Gives (g96 a0) (fun a => a = r) := ⟨r, hok, rfl⟩
 unfold g96 at H
 clear hok
 refine R.cut_fam H 14 [0] [] (fun v884 => [(3, bS v884)]) (fun v884 => []) [] 0 (fun H => ?_)
 refine And.intro ?_ ?_
 ·obtain ⟨v886, hv887, H⟩ := call_st H
  refine ⟨(a0, v886), ⟨hv887⟩, ⟨trivial⟩, ?_⟩
  refine And.intro ⟨rfl⟩ ?_
  refine if_st H (fun h888 H => ?_) (fun h888 H => ?_)
  ·refine ⟨true, ⟨H⟩, ⟨rfl⟩, ?_⟩
   repeat refine mo2B2 ?_
   first | exact trivial | exact rfl
  ·obtain ⟨v889, hv890, H⟩ := call_st H
   refine ⟨(a0, v889), ⟨hv890⟩, ⟨trivial⟩, ?_⟩
   refine And.intro ⟨rfl⟩ ?_
   refine if_st H (fun h891 H => ?_) (fun h891 H => ?_)
   ·refine ⟨true, ⟨H⟩, ⟨rfl⟩, ?_⟩
    repeat refine mo2B2 ?_
    first | exact trivial | exact rfl
   ·obtain ⟨v892, hv893, H⟩ := call_st H
    refine ⟨(a0, v892), ⟨hv893⟩, ⟨trivial⟩, ?_⟩
    refine And.intro ⟨rfl⟩ ?_
    refine ⟨v892, ⟨H⟩, ⟨rfl⟩, ?_⟩
    repeat refine mo2B2 ?_
    first | exact trivial | exact rfl
 ·intro v884 H
  refine if_st H (fun h894 H => ?_) (fun h894 H => ?_)
  ·have hfin := fin_st H
   repeat refine mf2B2 ?_
   first | exact trivial | exact rfl
  ·obtain ⟨v895, hv896, H⟩ := call_st H
   refine ⟨v895, ⟨hv896⟩, ⟨trivial⟩, ?_⟩
   refine R.cut_fam H 40 [4] [] (fun v929 => []) (fun v929 => []) [(22, .arr 21 1 (v895.length) (ei .i32 (v895))), (23, .cells 79 [.own 22]), (27, .cells 21 [.v (.int .i32 (a0))]), (28, .cells 4 [.bb false])] 0 (fun H => ?_)
   refine And.intro ?_ ?_
   ·refine R.loop_fam (bind_st H) [0, 1] [] (fun _ s933 => [(3, .v (.int .i64 (s933)))]) (fun _ s933 => []) 0 (fun n963 H => ?_)
    refine ⟨(n963, _), ⟨H⟩, ⟨trivial⟩, ?_⟩
    repeat refine mo2B2 ?_
    rintro ⟨m0, s933⟩ H _
    obtain ⟨m934, hm0, H⟩ := IG_succ H
    dsimp only at hm0
    subst hm0
    try dsimp only at H
    refine ob_ck H fun h952 H => ?_
    refine if_st H (fun h953 H => ?_) (fun h953 H => ?_)
    ·refine And.intro ⟨by kernel_rfl⟩ ?_
     refine ⟨(Pn.calm 0 (Pn.calm 1 (Pn.calm 2 (Pn.calm 3 (Pn.calm 4 (Pn.calm 5 (Pn.calm 6 (Pn.calm 7 (Pn.calm 8 (Pn.calm 9 (Pn.eff 10 [0, 4, 9, 3, 8, 1, 2, 5, 7, 6] (Pn.calm 11 Pn.done) Pn.no))))))))))), ⟨by kernel_rfl⟩, ?_⟩
     refine ob_ck H fun h954 H => ?_
     refine ld_int (e := v895.getD s933.toNat 0) (own_get (ys := ei .i32 v895) (by first | rfl | simp [ei, eb, es, ec, c135]) (ei_get (l := v895) (by first | exact tn h954 | (have := tn h954; simp at this ⊢; omega) | (have := tn h954; simp; omega)))) ?_
     refine ob_ck H fun h955 H => ?_
     refine ob_ck H fun h956 H => ?_
     refine ld_int (e := v895.getD (s933 + 1).toNat 0) (own_get (ys := ei .i32 v895) (by first | rfl | simp [ei, eb, es, ec, c135]) (ei_get (l := v895) (by first | exact tn h956 | (have := tn h956; simp at this ⊢; omega) | (have := tn h956; simp; omega)))) ?_
     refine And.intro ?_ trivial
     refine if_st H (fun h957 H => ?_) (fun h957 H => ?_)
     ·refine And.intro ⟨fun _ _ _ h => h⟩ ?_
      replace H := some_st H
      dsimp only [stp, sm] at H
      have hfin := fin_st H
      repeat refine mf2B2 ?_
      first | exact trivial | exact rfl
     ·refine if_st H (fun h958 H => ?_) (fun h958 H => ?_)
      ·refine And.intro ⟨fun _ _ _ h => h⟩ ?_
       replace H := some_st H
       dsimp only [stp, sm] at H
       have hfin := fin_st H
       repeat refine mf2B2 ?_
       first | exact trivial | exact rfl
      ·refine And.intro ⟨fun _ _ _ h => h⟩ ?_
       refine ob_ck H fun h959 H => ?_
       replace H := some_st H
       refine ⟨(m934, s933 + 2), ⟨H, Nat.lt_succ_self _⟩, ⟨trivial⟩, ⟨rfl⟩, ?_⟩
       repeat refine mo2B2 ?_
       first | exact trivial | exact rfl
    ·replace H := some_st H
     dsimp only [stp, sm] at H
     refine ⟨(), ⟨H⟩, ⟨rfl⟩, ?_⟩
     repeat refine mo2B2 ?_
     first | exact trivial | exact rfl
   ·intro v929 H
    have hfin := fin_st H
    repeat refine mf2B2 ?_
    first | exact trivial | exact rfl
noncomputable def g118 (a0 : Int) : Option (Bool) :=
 (g96 a0).bind fun v975 =>
 if ¬ v975 = 0 then
  some false
 else
  (
   (g98 a0).bind fun v978 =>
   if v978 = true then
    some false
   else
    (
     if 0 ≤ a0 then
      (
       if a0 ≤ 1114111 then
        (
         if a0 < 55296 then
          some true
         else
          some (decide (57343 < a0))
        )
       else
        some false
      )
     else
      some false
    )
  )
noncomputable def k118 : Eng.CS := { f := 118, calm := true, more := 0, ι := Int × Bool, ok := fun i => g118 i.1 = some i.2, rds := fun _ => [], args := fun i => [.w (.v (.int .i32 (i.1)))], res := fun i => bS i.2 }
set_option maxRecDepth 8000 in
set_option maxHeartbeats 4000000 in
theorem k118_ok : CalmOk Try.prog k118 := by
 refine R.calmspec Try.func118 nm118 rfl ?_
 rintro ⟨a0, r⟩ hok q _ args hargs
 match args, hargs with
 | [_], hargs =>
 obtain ⟨rfl, _⟩ := hargs
 refine ⟨envC [k96, k98] false [], 6, envC_ok (css_cons ⟨fun _ => k96_ok, fun h => (by cases h)⟩ (css_cons ⟨fun _ => k98_ok, fun h => (by cases h)⟩ (css_nil))), rfl, (by intro x hx; simp only [List.mem_cons, List.not_mem_nil, or_false] at hx; rcases hx with rfl <;> rfl), ?_⟩
 have H : Gives (g118 a0) (fun a => a = r) := ⟨r, hok, rfl⟩
 unfold g118 at H
 clear hok
 obtain ⟨v975, hv976, H⟩ := call_st H
 refine ⟨(a0, v975), ⟨hv976⟩, ⟨trivial⟩, ?_⟩
 refine And.intro ⟨rfl⟩ ?_
 refine if_st H (fun h977 H => ?_) (fun h977 H => ?_)
 ·have hfin := fin_st H
  repeat refine mf2B2 ?_
  first | exact trivial | exact rfl
 ·obtain ⟨v978, hv979, H⟩ := call_st H
  refine ⟨(a0, v978), ⟨hv979⟩, ⟨trivial⟩, ?_⟩
  refine And.intro ⟨rfl⟩ ?_
  refine if_st H (fun h980 H => ?_) (fun h980 H => ?_)
  ·have hfin := fin_st H
   repeat refine mf2B2 ?_
   first | exact trivial | exact rfl
  ·refine if_st H (fun h981 H => ?_) (fun h981 H => ?_)
   ·refine if_st H (fun h982 H => ?_) (fun h982 H => ?_)
    ·refine if_st H (fun h983 H => ?_) (fun h983 H => ?_)
     ·have hfin := fin_st H
      repeat refine mf2B2 ?_
      first | exact trivial | exact rfl
     ·have hfin := fin_st H
      repeat refine mf2B2 ?_
      first | exact trivial | exact rfl
    ·have hfin := fin_st H
     repeat refine mf2B2 ?_
     first | exact trivial | exact rfl
   ·have hfin := fin_st H
    repeat refine mf2B2 ?_
    first | exact trivial | exact rfl
noncomputable def g120 (a0 : Int) : Option (Bool) :=
 (g96 a0).bind fun v984 =>
 some (decide (0 < v984))
noncomputable def k120 : Eng.CS := { f := 120, calm := true, more := 0, ι := Int × Bool, ok := fun i => g120 i.1 = some i.2, rds := fun _ => [], args := fun i => [.w (.v (.int .i32 (i.1)))], res := fun i => bS i.2 }
set_option maxRecDepth 8000 in
set_option maxHeartbeats 4000000 in
theorem k120_ok : CalmOk Try.prog k120 := by
 refine R.calmspec Try.func120 nm120 rfl ?_
 rintro ⟨a0, r⟩ hok q _ args hargs
 match args, hargs with
 | [_], hargs =>
 obtain ⟨rfl, _⟩ := hargs
 refine ⟨envC [k96] false [], 6, envC_ok (css_cons ⟨fun _ => k96_ok, fun h => (by cases h)⟩ (css_nil)), rfl, (by intro x hx; simp only [List.mem_cons, List.not_mem_nil, or_false] at hx; rcases hx with rfl <;> rfl), ?_⟩
 have H : Gives (g120 a0) (fun a => a = r) := ⟨r, hok, rfl⟩
 unfold g120 at H
 clear hok
 obtain ⟨v984, hv985, H⟩ := call_st H
 refine ⟨(a0, v984), ⟨hv985⟩, ⟨trivial⟩, ?_⟩
 refine And.intro ⟨rfl⟩ ?_
 have hfin := fin_st H
 repeat refine mf2B2 ?_
 first | exact trivial | exact rfl
end Go.Proofs.Ytenjkphlbdhaiaa
end
section
namespace Go.Proofs.Ytenjkphlbdhaiaa
open Go Go.Eng
theorem mo1C1 {p q : Prop} (k : q) (h : p := by first | exact rfl | exact Iff.rfl | exact ⟨rfl, rfl⟩ | exact decide_eq_true_iff | (constructor <;> first | exact rfl | (simp only [ei, eb, es, ec, c135, gmin, gmax, List.map_append, List.flatMap_append, List.nil_append, List.append_nil, List.append_assoc]; done) | omega | (simp only [List.nil_append, List.length_append, List.length_cons, List.length_nil]; omega) | (simp [ei, eb, es, ec, c135, gmin, gmax]; done)) | exact rfl | (simp only [ei, eb, es, ec, c135, gmin, gmax, List.map_append, List.flatMap_append, List.nil_append, List.append_nil, List.append_assoc]; done) | omega | (simp only [List.nil_append, List.length_append, List.length_cons, List.length_nil]; omega) | (simp [ei, eb, es, ec, c135, gmin, gmax]; done) | simp [ei, eb, es, ec, c135, gmin, gmax]) : Ob p ∧ q := ⟨⟨h⟩, k⟩
theorem mf1C1 {p q : Prop} (k : q) (h : p := by first | (rw [← hfin] <;> first | exact rfl | exact Iff.rfl | exact ⟨rfl, rfl⟩ | exact decide_eq_true_iff | (constructor <;> first | exact rfl | (simp only [ei, eb, es, ec, c135, gmin, gmax, List.map_append, List.flatMap_append, List.nil_append, List.append_nil, List.append_assoc]; done) | omega | (simp only [List.nil_append, List.length_append, List.length_cons, List.length_nil]; omega) | (simp [ei, eb, es, ec, c135, gmin, gmax]; done)) | exact rfl | (simp only [ei, eb, es, ec, c135, gmin, gmax, List.map_append, List.flatMap_append, List.nil_append, List.append_nil, List.append_assoc]; done) | omega | (simp only [List.nil_append, List.length_append, List.length_cons, List.length_nil]; omega) | (simp [ei, eb, es, ec, c135, gmin, gmax]; done) | simp [ei, eb, es, ec, c135, gmin, gmax]) | first | exact rfl | exact Iff.rfl | exact ⟨rfl, rfl⟩ | exact decide_eq_true_iff | (constructor <;> first | exact rfl | (simp only [ei, eb, es, ec, c135, gmin, gmax, List.map_append, List.flatMap_append, List.nil_append, List.append_nil, List.append_assoc]; done) | omega | (simp only [List.nil_append, List.length_append, List.length_cons, List.length_nil]; omega) | (simp [ei, eb, es, ec, c135, gmin, gmax]; done)) | exact rfl | (simp only [ei, eb, es, ec, c135, gmin, gmax, List.map_append, List.flatMap_append, List.nil_append, List.append_nil, List.append_assoc]; done) | omega | (simp only [List.nil_append, List.length_append, List.length_cons, List.length_nil]; omega) | (simp [ei, eb, es, ec, c135, gmin, gmax]; done) | simp [ei, eb, es, ec, c135, gmin, gmax]) : Ob p ∧ q := ⟨⟨h⟩, k⟩
noncomputable def g100 (a0 : (List ByteArray × List Int × Bool)) : Option ((List ByteArray × List Int × Bool)) :=
 if a0.2.2 = true then
  (
   ck (isBytes a0.2.1) <|
   ck ((a0.1.length + 1) * 16 ≤ 140737488355328) <|
   ck (0 ≤ (0 : Int) ∧ (0 : Int) ≤ (0 : Int) ∧ (0 : Int) ≤ ((a0.2.1.length : Nat) : Int)) <|
   some ((a0.1 ++ [strOf a0.2.1]), (a0.2.1.take ((0 : Int).toNat - (0 : Int).toNat)), false)
  )
 else
  (
   ck (0 ≤ (0 : Int) ∧ (0 : Int) ≤ (0 : Int) ∧ (0 : Int) ≤ ((a0.2.1.length : Nat) : Int)) <|
   some (a0.1, (a0.2.1.take ((0 : Int).toNat - (0 : Int).toNat)), false)
  )
noncomputable def k100 : Eng.CS := { f := 100, calm := false, more := 5, ι := (List ByteArray × List Int × Bool) × (List ByteArray × List Int × Bool), ok := fun i => g100 i.1 = some i.2, rds := fun _ => [], args := fun i => [.w (.lp 0 0)], res := fun i => .tup [], L' := fun i => [(0, .cells 118 [.own 3, .own 4, bS i.2.2.2]), (3, .arr 9 1 i.2.1.length (es i.2.1)), (4, .arr 5 1 i.2.2.1.length (ei .u8 i.2.2.1))], rn := [(100000, 0, 9, 1), (100000, 1, 5, 1)], keys := 3, L := fun i => [(0, .cells 118 [.own 1, .own 2, bS i.1.2.2]), (1, .arr 9 1 i.1.1.length (es i.1.1)), (2, .arr 5 1 i.1.2.1.length (ei .u8 i.1.2.1))] }
set_option maxRecDepth 8000 in
set_option maxHeartbeats 4000000 in
theorem k100_ok : CSOk Try.prog k100 := by
 refine R.cspec Try.func100 nm100 rfl ?_
 rintro ⟨a0, r⟩ hok q _ args hargs
 dsimp only [k100] at hargs ⊢
 match args, hargs with
 | [_], hargs =>
 obtain ⟨rfl, _⟩ := hargs
 refine ⟨envC [] false [], 6, envC_ok (css_nil), ?_⟩
 have H : Gives (g100 a0) (fun a => a = r) := ⟨r, hok, rfl⟩
 unfold g100 at H
 clear hok
 refine if_st H (fun h8 H => ?_) (fun h8 H => ?_)
 ·refine And.intro ⟨by kernel_rfl⟩ ?_
  refine ⟨(Pn.calm 0 (Pn.calm 1 (Pn.calm 2 (Pn.calm 3 (Pn.calm 4 (Pn.calm 5 (Pn.calm 6 (Pn.calm 7 (Pn.calm 8 (Pn.calm 9 (Pn.eff 10 [9, 8, 7, 6, 5] (Pn.eff 11 [4, 10, 3, 9, 2, 8, 1, 7, 6, 5] (Pn.calm 12 (Pn.calm 13 (Pn.eff 14 [13, 11, 0, 1, 2, 3, 4, 5, 6, 7, 8, 9, 10, 12] Pn.done Pn.no))) Pn.no) Pn.no))))))))))), ⟨by kernel_rfl⟩, ?_⟩
  refine ob_str (l := a0.2.1) H fun h9 H => ?_
  refine And.intro ?_ trivial
  refine And.intro ⟨fun _ _ _ h => h⟩ ?_
  refine And.intro ?_ trivial
  refine ob_app (by decide) (by first | exact es_one | ((repeat (refine List.forall_mem_cons.2 ⟨rfl, ?_⟩)); intro y hy; cases hy; done) | (intro y hy; simp [ei, eb, es, ec, c135] at hy; (first | (rcases hy with rfl | hy) | subst hy | skip); all_goals first | rfl | simp_all [Value.oneCell'])) H fun h10 H => ?_
  intro n11 zs13 hn12 hz14
  obtain rfl : n11 = (a0.1 ++ [strOf a0.2.1]).length := hn12.trans (by first | exact List.length_append.symm | (simp; done) | (simp; omega))
  obtain rfl : zs13 = es (a0.1 ++ [strOf a0.2.1]) := by first | exact hz14.trans (es_app (xs := a0.1) (ys := ([strOf a0.2.1]))).symm | (rw [hz14, es_vw]; first | exact es_app.symm | exact (es_app (xs := a0.1)).symm) | (rw [hz14]; simp [ei, eb, es, ec, c135])
  refine And.intro ⟨fun _ _ _ h => h⟩ ?_
  refine And.intro ?_ trivial
  refine And.intro ⟨fun _ _ _ h => h⟩ ?_
  refine ob_ck H fun h15 H => ?_
  try dsimp only at h15
  intro n16 hn17
  subst hn17
  refine And.intro ⟨by first | omega | (dsimp only; omega)⟩ ?_
  intro n18 zs20 hn19 hz21
  obtain rfl : n18 = (a0.2.1.take ((0 : Int).toNat - (0 : Int).toNat)).length := hn19.trans (by rw [List.length_take]; omega)
  obtain rfl : zs20 = ei .u8 (a0.2.1.take ((0 : Int).toNat - (0 : Int).toNat)) := hz21.trans ei_take.symm
  have hfin := fin_st H
  repeat refine mf1C1 ?_
  first | exact trivial | exact rfl
 ·refine ob_ck H fun h22 H => ?_
  try dsimp only at h22
  intro n23 hn24
  subst hn24
  refine And.intro ⟨by first | omega | (dsimp only; omega)⟩ ?_
  intro n25 zs27 hn26 hz28
  obtain rfl : n25 = (a0.2.1.take ((0 : Int).toNat - (0 : Int).toNat)).length := hn26.trans (by rw [List.length_take]; omega)
  obtain rfl : zs27 = ei .u8 (a0.2.1.take ((0 : Int).toNat - (0 : Int).toNat)) := hz28.trans ei_take.symm
  have hfin := fin_st H
  repeat refine mf1C1 ?_
  first | exact trivial | exact rfl
noncomputable def g99 (a0 : (List ByteArray × List Int × Bool)) (a1 : Int) : Option ((List ByteArray × List Int × Bool)) :=
 (g120 a1).bind fun v41 =>
 if v41 = true then
  (
   (g100 (a0.1, a0.2.1, a0.2.2)).bind fun v44 =>
   (g119 a1).bind fun v46 =>
   ck ((v44.2.1.length + v46.length) * 1 ≤ 140737488355328) <|
   some (v44.1, (v44.2.1 ++ v46), true)
  )
 else
  (
   if ¬ (a0.2.2 = true) then
    some (a0.1, a0.2.1, a0.2.2)
   else
    (
     (g118 a1).bind fun v58 =>
     if ¬ (v58 = true) then
      some (a0.1, a0.2.1, a0.2.2)
     else
      (
       (g119 a1).bind fun v61 =>
       ck (inR .i64 (((a0.2.1.length : Nat) : Int) + ((v61.length : Nat) : Int))) <|
       if (((a0.2.1.length : Nat) : Int) + ((v61.length : Nat) : Int)) ≤ 64 then
        (
         ck ((a0.2.1.length + v61.length) * 1 ≤ 140737488355328) <|
         some (a0.1, (a0.2.1 ++ v61), a0.2.2)
        )
       else
        some (a0.1, a0.2.1, a0.2.2)
      )
    )
  )
noncomputable def k99 : Eng.CS := { f := 99, calm := false, more := 5, ι := (List ByteArray × List Int × Bool) × Int × (List ByteArray × List Int × Bool), ok := fun i => g99 i.1 i.2.1 = some i.2.2, rds := fun _ => [], args := fun i => [.w (.lp 0 0), .w (.v (.int .i32 (i.2.1)))], res := fun i => .tup [], L' := fun i => [(0, .cells 118 [.own 3, .own 4, bS i.2.2.2.2]), (3, .arr 9 1 i.2.2.1.length (es i.2.2.1)), (4, .arr 5 1 i.2.2.2.1.length (ei .u8 i.2.2.2.1))], rn := [(100000, 0, 9, 1), (100000, 1, 5, 1)], keys := 3, L := fun i => [(0, .cells 118 [.own 1, .own 2, bS i.1.2.2]), (1, .arr 9 1 i.1.1.length (es i.1.1)), (2, .arr 5 1 i.1.2.1.length (ei .u8 i.1.2.1))] }
set_option maxRecDepth 8000 in
set_option maxHeartbeats 4000000 in
theorem k99_ok : CSOk Try.prog k99 := by
 refine R.cspec Try.func99 nm99 rfl ?_
 rintro ⟨a0, a1, r⟩ hok q _ args hargs
 dsimp only [k99] at hargs ⊢
 match args, hargs with
 | [_, _], hargs =>
 obtain ⟨rfl, rfl, _⟩ := hargs
 refine ⟨envC [k100, k118, k119, k120] false [], 6, envC_ok (css_cons ⟨fun h => (by cases h), fun _ => k100_ok⟩ (css_cons ⟨fun _ => k118_ok, fun h => (by cases h)⟩ (css_cons ⟨fun h => (by cases h), fun _ => k119_ok⟩ (css_cons ⟨fun _ => k120_ok, fun h => (by cases h)⟩ (css_nil))))), ?_⟩
 have H : Gives (g99 a0 a1) (fun a => a = r) := ⟨r, hok, rfl⟩
 unfold g99 at H
 clear hok
 obtain ⟨v41, hv42, H⟩ := call_st H
 refine ⟨(a1, v41), ⟨hv42⟩, ⟨trivial⟩, ?_⟩
 refine And.intro ⟨rfl⟩ ?_
 refine if_st H (fun h43 H => ?_) (fun h43 H => ?_)
 ·obtain ⟨v44, hv45, H⟩ := call_st H
  refine ⟨((a0.1, a0.2.1, a0.2.2), v44), ⟨hv45⟩, ⟨trivial⟩, ?_⟩
  refine And.intro ⟨rfl⟩ ?_
  iterate 3 refine mo1C1 ?_
  refine And.intro ⟨by kernel_rfl⟩ ?_
  refine ⟨(Pn.calm 0 (Pn.calm 1 (Pn.calm 2 (Pn.calm 3 (Pn.calm 4 (Pn.calm 5 (Pn.eff 6 [5] (Pn.eff 7 [4, 6, 3, 5, 2, 1] (Pn.calm 8 (Pn.calm 9 (Pn.eff 10 [9, 7, 0, 1, 2, 3, 4, 5, 6, 8] Pn.done Pn.no))) Pn.no) Pn.no))))))), ⟨by kernel_rfl⟩, ?_⟩
  refine And.intro ?_ trivial
  obtain ⟨v46, hv47, H⟩ := call_st H
  refine ⟨(a1, v46), ⟨hv47⟩, ⟨trivial⟩, ?_⟩
  refine And.intro ⟨rfl⟩ ?_
  refine And.intro ⟨fun _ _ _ h => h⟩ ?_
  refine And.intro ?_ trivial
  refine ob_app (by decide) (by first | exact ei_one | ((repeat (refine List.forall_mem_cons.2 ⟨rfl, ?_⟩)); intro y hy; cases hy; done) | (intro y hy; simp [ei, eb, es, ec, c135] at hy; (first | (rcases hy with rfl | hy) | subst hy | skip); all_goals first | rfl | simp_all [Value.oneCell'])) H fun h48 H => ?_
  intro n49 zs51 hn50 hz52
  obtain rfl : n49 = (v44.2.1 ++ v46).length := hn50.trans (by first | exact List.length_append.symm | (simp; done) | (simp; omega))
  obtain rfl : zs51 = ei .u8 (v44.2.1 ++ v46) := by first | exact hz52.trans (ei_app (xs := v44.2.1) (ys := v46)).symm | (rw [hz52, ei_vw]; first | exact ei_app.symm | exact (ei_app (xs := v44.2.1)).symm) | (rw [hz52]; simp [ei, eb, es, ec, c135])
  refine And.intro ⟨fun _ _ _ h => h⟩ ?_
  refine And.intro ?_ trivial
  refine And.intro ⟨fun _ _ _ h => h⟩ ?_
  have hfin := fin_st H
  repeat refine mf1C1 ?_
  first | exact trivial | exact rfl
 ·refine if_st H (fun h57 H => ?_) (fun h57 H => ?_)
  ·have hfin := fin_st H
   repeat refine mf1C1 ?_
   first | exact trivial | exact rfl
  ·obtain ⟨v58, hv59, H⟩ := call_st H
   refine ⟨(a1, v58), ⟨hv59⟩, ⟨trivial⟩, ?_⟩
   refine And.intro ⟨rfl⟩ ?_
   refine if_st H (fun h60 H => ?_) (fun h60 H => ?_)
   ·have hfin := fin_st H
    repeat refine mf1C1 ?_
    first | exact trivial | exact rfl
   ·obtain ⟨v61, hv62, H⟩ := call_st H
    refine ⟨(a1, v61), ⟨hv62⟩, ⟨trivial⟩, ?_⟩
    refine And.intro ⟨rfl⟩ ?_
    refine ob_ck H fun h63 H => ?_
    refine if_st H (fun h64 H => ?_) (fun h64 H => ?_)
    ·refine ob_app (by decide) (by first | exact ei_one | ((repeat (refine List.forall_mem_cons.2 ⟨rfl, ?_⟩)); intro y hy; cases hy; done) | (intro y hy; simp [ei, eb, es, ec, c135] at hy; (first | (rcases hy with rfl | hy) | subst hy | skip); all_goals first | rfl | simp_all [Value.oneCell'])) H fun h65 H => ?_
     intro n66 zs68 hn67 hz69
     obtain rfl : n66 = (a0.2.1 ++ v61).length := hn67.trans (by first | exact List.length_append.symm | (simp; done) | (simp; omega))
     obtain rfl : zs68 = ei .u8 (a0.2.1 ++ v61) := by first | exact hz69.trans (ei_app (xs := a0.2.1) (ys := v61)).symm | (rw [hz69, ei_vw]; first | exact ei_app.symm | exact (ei_app (xs := a0.2.1)).symm) | (rw [hz69]; simp [ei, eb, es, ec, c135])
     have hfin := fin_st H
     repeat refine mf1C1 ?_
     first | exact trivial | exact rfl
    ·have hfin := fin_st H
     repeat refine mf1C1 ?_
     first | exact trivial | exact rfl
noncomputable def g67 (a0 : ByteArray) : Option (List ByteArray) :=
 jn (α := _) (β := List ByteArray × List Int × Bool) (fun k171 =>
   ck (a0.size ≤ 140737488355328) <|
   (loopO (σ := List ByteArray × List Int × Bool × Int) (ρ := List ByteArray × List Int × Bool) (fun s183 =>
     if s183.2.2.2 < (((bytesOf a0).length : Nat) : Int) then
      (
       ck (0 ≤ s183.2.2.2 ∧ s183.2.2.2 ≤ (((bytesOf a0).length : Nat) : Int) ∧ (((bytesOf a0).length : Nat) : Int) ≤ (((bytesOf a0).length : Nat) : Int)) <|
       (g131 (((bytesOf a0).drop s183.2.2.2.toNat).take ((((bytesOf a0).length : Nat) : Int).toNat - s183.2.2.2.toNat))).bind fun v235 =>
       if v235.2.2 = true then
        (
         (g98 65533).bind fun v238 =>
         if v238 = true then
          (
           ck (inR .i64 (s183.2.2.2 + 1)) <|
           some (.go (s183.1, s183.2.1, s183.2.2.1, s183.2.2.2 + 1))
          )
         else
          (
           (g99 (s183.1, s183.2.1, s183.2.2.1) 65533).bind fun v242 =>
           ck (inR .i64 (s183.2.2.2 + 1)) <|
           some (.go (v242.1, v242.2.1, v242.2.2, s183.2.2.2 + 1))
          )
        )
       else
        (
         (g98 v235.1).bind fun v245 =>
         if v245 = true then
          (
           ck (inR .i64 (s183.2.2.2 + v235.2.1)) <|
           some (.go (s183.1, s183.2.1, s183.2.2.1, s183.2.2.2 + v235.2.1))
          )
         else
          (
           (g99 (s183.1, s183.2.1, s183.2.2.1) v235.1).bind fun v249 =>
           ck (inR .i64 (s183.2.2.2 + v235.2.1)) <|
           some (.go (v249.1, v249.2.1, v249.2.2, s183.2.2.2 + v235.2.1))
          )
        )
      )
     else
      some (.out (s183.1, s183.2.1, s183.2.2.1))
    ) ([], [], false, 0)).bind fun o229 =>
    k171 (o229.1, o229.2.1, o229.2.2)
 ) (fun v170 =>
  (g100 (v170.1, v170.2.1, v170.2.2)).bind fun v253 =>
  some v253.1
 )
noncomputable def k67 : Eng.CS := { f := 67, calm := false, more := 1, ι := ByteArray × List ByteArray, ok := fun i => g67 i.1 = some i.2, rds := fun _ => [], args := fun i => [.w (.v (.string (i.1)))], res := fun i => .own 0, L' := fun i => [(0, .arr 9 1 i.2.length (es i.2))], rn := [(0, 0, 9, 1)] }
set_option maxRecDepth 8000 in
set_option maxHeartbeats 4000000 in
theorem k67_ok : CSOk Try.prog k67 := by
 refine R.cspec Try.func67 nm67 rfl ?_
 rintro ⟨a0, r⟩ hok q _ args hargs
 match args, hargs with
 | [_], hargs =>
 obtain ⟨rfl, _⟩ := hargs
 refine ⟨envC [k98, k99, k100, k131] false [(67, 6)], 6, envC_ok (css_cons ⟨fun _ => k98_ok, fun h => (by cases h)⟩ (css_cons ⟨fun h => (by cases h), fun _ => k99_ok⟩ (css_cons ⟨fun h => (by cases h), fun _ => k100_ok⟩ (css_cons ⟨fun _ => k131_ok, fun h => (by cases h)⟩ (css_nil))))), ?_⟩
 have H : Gives (g67 a0) (fun a => a = r) := ⟨r, hok, rfl⟩
 unfold g67 at H
 clear hok
 refine R.cut_famG H 28 [3] [] [] (fun v170 => []) (fun v170 => [(1, .cells 118 [.own 28, .own 29, bS v170.2.2]), (28, .arr 9 1 (v170.1.length) (es (v170.1))), (29, .arr 5 1 (v170.2.1.length) (ei .u8 (v170.2.1)))]) [] 2 (fun H => ?_)
 refine And.intro ?_ ?_
 ·refine ob_sb H fun h177 H q178 A172 c173 hq174 hc175 hR176 => ?_
  intro n179 hn180
  obtain rfl : n179 = (bytesOf a0).length := hn180.trans (bytesOf_len a0).symm
  refine R.loop_fam (bind_st H) [0, 1] [(100001, 0, 9, 1), (100001, 1, 5, 1)] (fun _ s183 => [(3, .v (.int .i64 (s183.2.2.2)))]) (fun _ s183 => [(1, .cells 118 [.own 18, .own 19, bS s183.2.2.1]), (18, .arr 9 1 (s183.1.length) (es (s183.1))), (19, .arr 5 1 (s183.2.1.length) (ei .u8 (s183.2.1)))]) 2 (fun n252 H => ?_)
  refine ⟨(n252, _), ⟨H⟩, ⟨trivial⟩, ?_⟩
  repeat refine mo1C1 ?_
  rintro ⟨m0, s183⟩ H _
  obtain ⟨m184, hm0, H⟩ := IG_succ H
  dsimp only at hm0
  subst hm0
  try dsimp only at H
  refine if_st H (fun h230 H => ?_) (fun h230 H => ?_)
  ·refine ob_sl (Nat.le_trans (Nat.le_of_eq (bytesOf_len a0)) hc175) H fun h231 H => ?_
   have hs232 := sl_ei hR176 rfl (Nat.le_trans (Nat.le_of_eq (bytesOf_len a0)) hc175) h231
   intro n233 hn234
   obtain rfl : n233 = (((bytesOf a0).drop s183.2.2.2.toNat).take ((((bytesOf a0).length : Nat) : Int).toNat - s183.2.2.2.toNat)).length := hn234.trans hs232.2.1.symm
   obtain ⟨v235, hv236, H⟩ := call_st H
   refine ⟨((((bytesOf a0).drop s183.2.2.2.toNat).take ((((bytesOf a0).length : Nat) : Int).toNat - s183.2.2.2.toNat)), v235), ⟨hv236⟩, ⟨trivial⟩, ?_⟩
   refine And.intro ⟨rfl, (Nat.le_trans (Nat.le_of_eq hs232.2.1) hs232.2.2), ei_len.trans ((show _ = _ from rfl).trans (Nat.mul_one _).symm), hs232.1⟩ ?_
   refine if_st H (fun h237 H => ?_) (fun h237 H => ?_)
   ·obtain ⟨v238, hv239, H⟩ := call_st H
    refine ⟨(65533, v238), ⟨hv239⟩, ⟨trivial⟩, ?_⟩
    refine And.intro ⟨rfl⟩ ?_
    refine if_st H (fun h240 H => ?_) (fun h240 H => ?_)
    ·refine ob_ck H fun h241 H => ?_
     replace H := some_st H
     refine ⟨(m184, (s183.1, s183.2.1, s183.2.2.1, s183.2.2.2 + 1)), ⟨H, Nat.lt_succ_self _⟩, ⟨trivial⟩, ⟨rfl⟩, ?_⟩
     repeat refine mo1C1 ?_
     first | exact trivial | exact rfl
    ·obtain ⟨v242, hv243, H⟩ := call_st H
     refine ⟨((s183.1, s183.2.1, s183.2.2.1), 65533, v242), ⟨hv243⟩, ⟨trivial⟩, ?_⟩
     iterate 2 refine And.intro ⟨rfl⟩ ?_
     iterate 3 refine mo1C1 ?_
     refine ob_ck H fun h244 H => ?_
     replace H := some_st H
     refine ⟨(m184, (v242.1, v242.2.1, v242.2.2, s183.2.2.2 + 1)), ⟨H, Nat.lt_succ_self _⟩, ⟨trivial⟩, ⟨rfl⟩, ?_⟩
     repeat refine mo1C1 ?_
     first | exact trivial | exact rfl
   ·obtain ⟨v245, hv246, H⟩ := call_st H
    refine ⟨(v235.1, v245), ⟨hv246⟩, ⟨trivial⟩, ?_⟩
    refine And.intro ⟨rfl⟩ ?_
    refine if_st H (fun h247 H => ?_) (fun h247 H => ?_)
    ·refine ob_ck H fun h248 H => ?_
     replace H := some_st H
     refine ⟨(m184, (s183.1, s183.2.1, s183.2.2.1, s183.2.2.2 + v235.2.1)), ⟨H, Nat.lt_succ_self _⟩, ⟨trivial⟩, ⟨rfl⟩, ?_⟩
     repeat refine mo1C1 ?_
     first | exact trivial | exact rfl
    ·obtain ⟨v249, hv250, H⟩ := call_st H
     refine ⟨((s183.1, s183.2.1, s183.2.2.1), v235.1, v249), ⟨hv250⟩, ⟨trivial⟩, ?_⟩
     iterate 2 refine And.intro ⟨rfl⟩ ?_
     iterate 3 refine mo1C1 ?_
     refine ob_ck H fun h251 H => ?_
     replace H := some_st H
     refine ⟨(m184, (v249.1, v249.2.1, v249.2.2, s183.2.2.2 + v235.2.1)), ⟨H, Nat.lt_succ_self _⟩, ⟨trivial⟩, ⟨rfl⟩, ?_⟩
     repeat refine mo1C1 ?_
     first | exact trivial | exact rfl
  ·replace H := some_st H
   dsimp only [stp, sm] at H
   refine ⟨(s183.1, s183.2.1, s183.2.2.1), ⟨H⟩, ⟨fun _ _ _ h => (hq174 _ _ _ h)⟩, ?_⟩
   repeat refine mo1C1 ?_
   first | exact trivial | exact rfl
 ·intro q169 hq168 v170 H
  obtain ⟨v253, hv254, H⟩ := call_st H
  refine ⟨((v170.1, v170.2.1, v170.2.2), v253), ⟨hv254⟩, ⟨trivial⟩, ?_⟩
  refine And.intro ⟨rfl⟩ ?_
  iterate 3 refine mo1C1 ?_
  have hfin := fin_st H
  repeat refine mf1C1 ?_
  first | exact trivial | exact rfl
noncomputable def g56 (a0 : ByteArray) : Option (Bool) :=
 (g67 a0).bind fun v255 =>
 if ((v255.length : Nat) : Int) = 1 then
  (
   ck (0 ≤ (0 : Int) ∧ 0 < ((v255.length : Nat) : Int)) <|
   some (decide ((v255.getD (0 : Int).toNat default).data.toList = a0.data.toList))
  )
 else
  some false
noncomputable def k56 : Eng.CS := { f := 56, calm := true, more := 0, ι := ByteArray × Bool, ok := fun i => g56 i.1 = some i.2, rds := fun _ => [], args := fun i => [.w (.v (.string (i.1)))], res := fun i => bS i.2 }
set_option maxRecDepth 8000 in
set_option maxHeartbeats 4000000 in
theorem k56_ok : CalmOk Try.prog k56 := by
 refine R.calmspec Try.func56 nm56 rfl ?_
 rintro ⟨a0, r⟩ hok q _ args hargs
 match args, hargs with
 | [_], hargs =>
 obtain ⟨rfl, _⟩ := hargs
 refine ⟨envC [k67] false [], 6, envC_ok (css_cons ⟨fun h => (by cases h), fun _ => k67_ok⟩ (css_nil)), rfl, (by intro x hx; simp only [List.mem_cons, List.not_mem_nil, or_false] at hx; rcases hx with rfl <;> rfl), ?_⟩
 have H : Gives (g56 a0) (fun a => a = r) := ⟨r, hok, rfl⟩
 unfold g56 at H
 clear hok
 obtain ⟨v255, hv256, H⟩ := call_st H
 refine ⟨(a0, v255), ⟨hv256⟩, ⟨trivial⟩, ?_⟩
 refine And.intro ⟨rfl⟩ ?_
 refine if_st H (fun h257 H => ?_) (fun h257 H => ?_)
 ·refine ob_ck H fun h258 H => ?_
  refine ld_str (e := v255.getD (0 : Int).toNat default) (own_get (ys := es v255) (by first | rfl | simp [ei, eb, es, ec, c135]) (es_get (l := v255) (by first | exact tn h258 | (have := tn h258; simp at this ⊢; omega) | (have := tn h258; simp; omega)))) ?_
  have hfin := fin_st H
  repeat refine mf1C1 ?_
  first | exact trivial | exact rfl
 ·have hfin := fin_st H
  repeat refine mf1C1 ?_
  first | exact trivial | exact rfl
end Go.Proofs.Ytenjkphlbdhaiaa
end
section
namespace Go.Proofs.Ytenjkphlbdhaiaa
open Go Go.Eng
theorem mf1G1 {p q : Prop} (k : q) (h : p := by first | (rw [← hfin] <;> first | exact rfl | exact Iff.rfl | exact ⟨rfl, rfl⟩ | exact decide_eq_true_iff | (constructor <;> first | exact rfl | (simp only [ei, eb, es, ec, gmin, gmax, List.map_append, List.flatMap_append, List.nil_append, List.append_nil, List.append_assoc]; done) | omega | (simp only [List.nil_append, List.length_append, List.length_cons, List.length_nil]; omega) | (simp [ei, eb, es, ec, gmin, gmax]; done)) | exact rfl | (simp only [ei, eb, es, ec, gmin, gmax, List.map_append, List.flatMap_append, List.nil_append, List.append_nil, List.append_assoc]; done) | omega | (simp only [List.nil_append, List.length_append, List.length_cons, List.length_nil]; omega) | (simp [ei, eb, es, ec, gmin, gmax]; done) | simp [ei, eb, es, ec, gmin, gmax]) | first | exact rfl | exact Iff.rfl | exact ⟨rfl, rfl⟩ | exact decide_eq_true_iff | (constructor <;> first | exact rfl | (simp only [ei, eb, es, ec, gmin, gmax, List.map_append, List.flatMap_append, List.nil_append, List.append_nil, List.append_assoc]; done) | omega | (simp only [List.nil_append, List.length_append, List.length_cons, List.length_nil]; omega) | (simp [ei, eb, es, ec, gmin, gmax]; done)) | exact rfl | (simp only [ei, eb, es, ec, gmin, gmax, List.map_append, List.flatMap_append, List.nil_append, List.append_nil, List.append_assoc]; done) | omega | (simp only [List.nil_append, List.length_append, List.length_cons, List.length_nil]; omega) | (simp [ei, eb, es, ec, gmin, gmax]; done) | simp [ei, eb, es, ec, gmin, gmax]) : Ob p ∧ q := ⟨⟨h⟩, k⟩
noncomputable def g47 (a0 : (Int × List ByteArray × Int × Int)) : Option (Bool) :=
 some (decide (0 < a0.1))
noncomputable def k47 : Eng.CS := { f := 47, calm := true, more := 0, ι := (Int × List ByteArray × Int × Int) × Bool, ok := fun i => g47 i.1 = some i.2, rds := fun _ => [], args := fun i => [.pt [.w (.int .i64 i.1.1), .row 1 i.1.2.1.length (es i.1.2.1), .w (.int .i64 i.1.2.2.1), .w (.int .i64 i.1.2.2.2)]], res := fun i => bS i.2 }
set_option maxRecDepth 8000 in
set_option maxHeartbeats 4000000 in
theorem k47_ok : CalmOk Try.prog k47 := by
 refine R.calmspec Try.func47 nm47 rfl ?_
 rintro ⟨a0, r⟩ hok q _ args hargs
 dsimp only [k47] at hargs ⊢
 match args, hargs with
 | [_], hargs =>
 obtain ⟨⟨P0, us0, rfl, hs0, _, hR0, hpc0⟩, _⟩ := hargs
 match us0, hR0, hpc0 with
 | [_, _, _, _], hR0, hpc0 =>
 obtain ⟨rfl, ⟨A0_1, c0_1, rfl, hcr0_1, _, hRr0_1⟩, rfl, rfl, _⟩ := hpc0
 refine ⟨envC [] false [], 6, envC_ok (css_nil), rfl, (by intro x hx; simp only [List.mem_cons, List.not_mem_nil, or_false] at hx; rcases hx with rfl <;> rfl), ?_⟩
 have H : Gives (g47 a0) (fun a => a = r) := ⟨r, hok, rfl⟩
 unfold g47 at H
 clear hok
 refine ob_nc ?_
 refine ld_int (e := a0.1) (rd_get hR0 rfl) ?_
 have hfin := fin_st H
 repeat refine mf1G1 ?_
 first | exact trivial | exact rfl
noncomputable def g48 (a0 : (Int × List ByteArray × Int × Int)) : Option (Int) :=
 ck (inR .i64 (a0.2.2.2 - a0.2.2.1)) <|
 ck (inR .i64 (((a0.2.1.length : Nat) : Int) - (a0.2.2.2 - a0.2.2.1))) <|
 some (((a0.2.1.length : Nat) : Int) - (a0.2.2.2 - a0.2.2.1))
noncomputable def k48 : Eng.CS := { f := 48, calm := true, more := 0, ι := (Int × List ByteArray × Int × Int) × Int, ok := fun i => g48 i.1 = some i.2, rds := fun _ => [], args := fun i => [.pt [.w (.int .i64 i.1.1), .row 1 i.1.2.1.length (es i.1.2.1), .w (.int .i64 i.1.2.2.1), .w (.int .i64 i.1.2.2.2)]], res := fun i => .v (.int .i64 (i.2)) }
set_option maxRecDepth 8000 in
set_option maxHeartbeats 4000000 in
theorem k48_ok : CalmOk Try.prog k48 := by
 refine R.calmspec Try.func48 nm48 rfl ?_
 rintro ⟨a0, r⟩ hok q _ args hargs
 dsimp only [k48] at hargs ⊢
 match args, hargs with
 | [_], hargs =>
 obtain ⟨⟨P0, us0, rfl, hs0, _, hR0, hpc0⟩, _⟩ := hargs
 match us0, hR0, hpc0 with
 | [_, _, _, _], hR0, hpc0 =>
 obtain ⟨rfl, ⟨A0_1, c0_1, rfl, hcr0_1, _, hRr0_1⟩, rfl, rfl, _⟩ := hpc0
 refine ⟨envC [] false [], 6, envC_ok (css_nil), rfl, (by intro x hx; simp only [List.mem_cons, List.not_mem_nil, or_false] at hx; rcases hx with rfl <;> rfl), ?_⟩
 have H : Gives (g48 a0) (fun a => a = r) := ⟨r, hok, rfl⟩
 unfold g48 at H
 clear hok
 refine And.intro ⟨by kernel_rfl⟩ ?_
 refine ob_nc ?_
 refine ld_sl (A := A0_1) (n := a0.2.1.length) (c := c0_1) (rd_get hR0 rfl) ?_
 refine ob_nc ?_
 refine ld_int (e := a0.2.2.2) (rd_get hR0 rfl) ?_
 refine ob_nc ?_
 refine ld_int (e := a0.2.2.1) (rd_get hR0 rfl) ?_
 refine ob_ck H fun h1 H => ?_
 refine ob_ck H fun h2 H => ?_
 have hfin := fin_st H
 repeat refine mf1G1 ?_
 first | exact trivial | exact rfl
noncomputable def g49 (a0 : (Int × List ByteArray × Int × Int)) (a1 : Int) : Option (Int) :=
 (g48 a0).bind fun v3 =>
 some (gmax 0 (gmin a1 v3))
noncomputable def k49 : Eng.CS := { f := 49, calm := true, more := 0, ι := (Int × List ByteArray × Int × Int) × Int × Int, ok := fun i => g49 i.1 i.2.1 = some i.2.2, rds := fun _ => [], args := fun i => [.pt [.w (.int .i64 i.1.1), .row 1 i.1.2.1.length (es i.1.2.1), .w (.int .i64 i.1.2.2.1), .w (.int .i64 i.1.2.2.2)], .w (.v (.int .i64 (i.2.1)))], res := fun i => .v (.int .i64 (i.2.2)) }
set_option maxRecDepth 8000 in
set_option maxHeartbeats 4000000 in
theorem k49_ok : CalmOk Try.prog k49 := by
 refine R.calmspec Try.func49 nm49 rfl ?_
 rintro ⟨a0, a1, r⟩ hok q _ args hargs
 dsimp only [k49] at hargs ⊢
 match args, hargs with
 | [_, _], hargs =>
 obtain ⟨⟨P0, us0, rfl, hs0, _, hR0, hpc0⟩, rfl, _⟩ := hargs
 match us0, hR0, hpc0 with
 | [_, _, _, _], hR0, hpc0 =>
 obtain ⟨rfl, ⟨A0_1, c0_1, rfl, hcr0_1, _, hRr0_1⟩, rfl, rfl, _⟩ := hpc0
 refine ⟨envC [k48] false [], 6, envC_ok (css_cons ⟨fun _ => k48_ok, fun h => (by cases h)⟩ (css_nil)), rfl, (by intro x hx; simp only [List.mem_cons, List.not_mem_nil, or_false] at hx; rcases hx with rfl | rfl <;> rfl), ?_⟩
 have H : Gives (g49 a0 a1) (fun a => a = r) := ⟨r, hok, rfl⟩
 unfold g49 at H
 clear hok
 obtain ⟨v3, hv4, H⟩ := call_st H
 refine ⟨(a0, v3), ⟨hv4⟩, ⟨trivial⟩, ?_⟩
 refine And.intro ⟨hs0, _, rfl, hR0, rfl, ⟨_, _, rfl, hcr0_1, es_len.trans (Nat.mul_one _).symm, hRr0_1⟩, rfl, rfl, trivial⟩ ?_
 have hfin := fin_st H
 repeat refine mf1G1 ?_
 first | exact trivial | exact rfl
noncomputable def g13 (a0 : (Int × List ByteArray × Int × Int)) : Option (Int) :=
 (g47 a0).bind fun v8 =>
 if ¬ (v8 = true) then
  some 0
 else
  some a0.2.2.1
noncomputable def k13 : Eng.CS := { f := 13, calm := true, more := 0, ι := (Int × List ByteArray × Int × Int) × Int, ok := fun i => g13 i.1 = some i.2, rds := fun _ => [], args := fun i => [.pt [.w (.int .i64 i.1.1), .row 1 i.1.2.1.length (es i.1.2.1), .w (.int .i64 i.1.2.2.1), .w (.int .i64 i.1.2.2.2)]], res := fun i => .v (.int .i64 (i.2)) }
set_option maxRecDepth 8000 in
set_option maxHeartbeats 4000000 in
theorem k13_ok : CalmOk Try.prog k13 := by
 refine R.calmspec Try.func13 nm13 rfl ?_
 rintro ⟨a0, r⟩ hok q _ args hargs
 dsimp only [k13] at hargs ⊢
 match args, hargs with
 | [_], hargs =>
 obtain ⟨⟨P0, us0, rfl, hs0, _, hR0, hpc0⟩, _⟩ := hargs
 match us0, hR0, hpc0 with
 | [_, _, _, _], hR0, hpc0 =>
 obtain ⟨rfl, ⟨A0_1, c0_1, rfl, hcr0_1, _, hRr0_1⟩, rfl, rfl, _⟩ := hpc0
 refine ⟨envC [k47] false [], 6, envC_ok (css_cons ⟨fun _ => k47_ok, fun h => (by cases h)⟩ (css_nil)), rfl, (by intro x hx; simp only [List.mem_cons, List.not_mem_nil, or_false] at hx; rcases hx with rfl <;> rfl), ?_⟩
 have H : Gives (g13 a0) (fun a => a = r) := ⟨r, hok, rfl⟩
 unfold g13 at H
 clear hok
 obtain ⟨v8, hv9, H⟩ := call_st H
 refine ⟨(a0, v8), ⟨hv9⟩, ⟨trivial⟩, ?_⟩
 refine And.intro ⟨hs0, _, rfl, hR0, rfl, ⟨_, _, rfl, hcr0_1, es_len.trans (Nat.mul_one _).symm, hRr0_1⟩, rfl, rfl, trivial⟩ ?_
 refine if_st H (fun h10 H => ?_) (fun h10 H => ?_)
 ·have hfin := fin_st H
  repeat refine mf1G1 ?_
  first | exact trivial | exact rfl
 ·refine ob_nc ?_
  refine ld_int (e := a0.2.2.1) (rd_get hR0 rfl) ?_
  have hfin := fin_st H
  repeat refine mf1G1 ?_
  first | exact trivial | exact rfl
noncomputable def g18 (a0 : (Int × List ByteArray × Int × Int)) : Option (Int) :=
 (g47 a0).bind fun v14 =>
 if ¬ (v14 = true) then
  some 0
 else
  (
   (g48 a0).bind fun v17 =>
   ck (inR .i64 (a0.1 - v17)) <|
   some (a0.1 - v17)
  )
noncomputable def k18 : Eng.CS := { f := 18, calm := true, more := 0, ι := (Int × List ByteArray × Int × Int) × Int, ok := fun i => g18 i.1 = some i.2, rds := fun _ => [], args := fun i => [.pt [.w (.int .i64 i.1.1), .row 1 i.1.2.1.length (es i.1.2.1), .w (.int .i64 i.1.2.2.1), .w (.int .i64 i.1.2.2.2)]], res := fun i => .v (.int .i64 (i.2)) }
set_option maxRecDepth 8000 in
set_option maxHeartbeats 4000000 in
theorem k18_ok : CalmOk Try.prog k18 := by
 refine R.calmspec Try.func18 nm18 rfl ?_
 rintro ⟨a0, r⟩ hok q _ args hargs
 dsimp only [k18] at hargs ⊢
 match args, hargs with
 | [_], hargs =>
 obtain ⟨⟨P0, us0, rfl, hs0, _, hR0, hpc0⟩, _⟩ := hargs
 match us0, hR0, hpc0 with
 | [_, _, _, _], hR0, hpc0 =>
 obtain ⟨rfl, ⟨A0_1, c0_1, rfl, hcr0_1, _, hRr0_1⟩, rfl, rfl, _⟩ := hpc0
 refine ⟨envC [k47, k48] false [], 6, envC_ok (css_cons ⟨fun _ => k47_ok, fun h => (by cases h)⟩ (css_cons ⟨fun _ => k48_ok, fun h => (by cases h)⟩ (css_nil))), rfl, (by intro x hx; simp only [List.mem_cons, List.not_mem_nil, or_false] at hx; rcases hx with rfl <;> rfl), ?_⟩
 have H : Gives (g18 a0) (fun a => a = r) := ⟨r, hok, rfl⟩
 unfold g18 at H
 clear hok
 obtain ⟨v14, hv15, H⟩ := call_st H
 refine ⟨(a0, v14), ⟨hv15⟩, ⟨trivial⟩, ?_⟩
 refine And.intro ⟨hs0, _, rfl, hR0, rfl, ⟨_, _, rfl, hcr0_1, es_len.trans (Nat.mul_one _).symm, hRr0_1⟩, rfl, rfl, trivial⟩ ?_
 refine if_st H (fun h16 H => ?_) (fun h16 H => ?_)
 ·have hfin := fin_st H
  repeat refine mf1G1 ?_
  first | exact trivial | exact rfl
 ·refine And.intro ⟨by kernel_rfl⟩ ?_
  refine ob_nc ?_
  refine ld_int (e := a0.1) (rd_get hR0 rfl) ?_
  obtain ⟨v17, hv18, H⟩ := call_st H
  refine ⟨(a0, v17), ⟨hv18⟩, ⟨trivial⟩, ?_⟩
  refine And.intro ⟨hs0, _, rfl, hR0, rfl, ⟨_, _, rfl, hcr0_1, es_len.trans (Nat.mul_one _).symm, hRr0_1⟩, rfl, rfl, trivial⟩ ?_
  refine ob_ck H fun h19 H => ?_
  have hfin := fin_st H
  repeat refine mf1G1 ?_
  first | exact trivial | exact rfl
noncomputable def g20 (a0 : (Int × List ByteArray × Int × Int)) : Option (Int) :=
 (g47 a0).bind fun v23 =>
 if ¬ (v23 = true) then
  some 0
 else
  (
   (g48 a0).bind fun v26 =>
   some v26
  )
noncomputable def k20 : Eng.CS := { f := 20, calm := true, more := 0, ι := (Int × List ByteArray × Int × Int) × Int, ok := fun i => g20 i.1 = some i.2, rds := fun _ => [], args := fun i => [.pt [.w (.int .i64 i.1.1), .row 1 i.1.2.1.length (es i.1.2.1), .w (.int .i64 i.1.2.2.1), .w (.int .i64 i.1.2.2.2)]], res := fun i => .v (.int .i64 (i.2)) }
set_option maxRecDepth 8000 in
set_option maxHeartbeats 4000000 in
theorem k20_ok : CalmOk Try.prog k20 := by
 refine R.calmspec Try.func20 nm20 rfl ?_
 rintro ⟨a0, r⟩ hok q _ args hargs
 dsimp only [k20] at hargs ⊢
 match args, hargs with
 | [_], hargs =>
 obtain ⟨⟨P0, us0, rfl, hs0, _, hR0, hpc0⟩, _⟩ := hargs
 match us0, hR0, hpc0 with
 | [_, _, _, _], hR0, hpc0 =>
 obtain ⟨rfl, ⟨A0_1, c0_1, rfl, hcr0_1, _, hRr0_1⟩, rfl, rfl, _⟩ := hpc0
 refine ⟨envC [k47, k48] false [], 6, envC_ok (css_cons ⟨fun _ => k47_ok, fun h => (by cases h)⟩ (css_cons ⟨fun _ => k48_ok, fun h => (by cases h)⟩ (css_nil))), rfl, (by intro x hx; simp only [List.mem_cons, List.not_mem_nil, or_false] at hx; rcases hx with rfl <;> rfl), ?_⟩
 have H : Gives (g20 a0) (fun a => a = r) := ⟨r, hok, rfl⟩
 unfold g20 at H
 clear hok
 obtain ⟨v23, hv24, H⟩ := call_st H
 refine ⟨(a0, v23), ⟨hv24⟩, ⟨trivial⟩, ?_⟩
 refine And.intro ⟨hs0, _, rfl, hR0, rfl, ⟨_, _, rfl, hcr0_1, es_len.trans (Nat.mul_one _).symm, hRr0_1⟩, rfl, rfl, trivial⟩ ?_
 refine if_st H (fun h25 H => ?_) (fun h25 H => ?_)
 ·have hfin := fin_st H
  repeat refine mf1G1 ?_
  first | exact trivial | exact rfl
 ·obtain ⟨v26, hv27, H⟩ := call_st H
  refine ⟨(a0, v26), ⟨hv27⟩, ⟨trivial⟩, ?_⟩
  refine And.intro ⟨hs0, _, rfl, hR0, rfl, ⟨_, _, rfl, hcr0_1, es_len.trans (Nat.mul_one _).symm, hRr0_1⟩, rfl, rfl, trivial⟩ ?_
  have hfin := fin_st H
  repeat refine mf1G1 ?_
  first | exact trivial | exact rfl
end Go.Proofs.Ytenjkphlbdhaiaa
end
section
namespace Go.Proofs.Ytenjkphlbdhaiaa
open Go Go.Eng
theorem mo1G2 {p q : Prop} (k : q) (h : p := by first | exact rfl | exact Iff.rfl | exact ⟨rfl, rfl⟩ | exact decide_eq_true_iff | (constructor <;> first | exact rfl | (simp only [ei, eb, es, ec, gmin, gmax, List.map_append, List.flatMap_append, List.nil_append, List.append_nil, List.append_assoc]; done) | omega | (simp only [List.nil_append, List.length_append, List.length_cons, List.length_nil]; omega) | (simp [ei, eb, es, ec, gmin, gmax]; done)) | exact rfl | (simp only [ei, eb, es, ec, gmin, gmax, List.map_append, List.flatMap_append, List.nil_append, List.append_nil, List.append_assoc]; done) | omega | (simp only [List.nil_append, List.length_append, List.length_cons, List.length_nil]; omega) | (simp [ei, eb, es, ec, gmin, gmax]; done) | simp [ei, eb, es, ec, gmin, gmax]) : Ob p ∧ q := ⟨⟨h⟩, k⟩
theorem mf1G2 {p q : Prop} (k : q) (h : p := by first | (rw [← hfin] <;> first | exact rfl | exact Iff.rfl | exact ⟨rfl, rfl⟩ | exact decide_eq_true_iff | (constructor <;> first | exact rfl | (simp only [ei, eb, es, ec, gmin, gmax, List.map_append, List.flatMap_append, List.nil_append, List.append_nil, List.append_assoc]; done) | omega | (simp only [List.nil_append, List.length_append, List.length_cons, List.length_nil]; omega) | (simp [ei, eb, es, ec, gmin, gmax]; done)) | exact rfl | (simp only [ei, eb, es, ec, gmin, gmax, List.map_append, List.flatMap_append, List.nil_append, List.append_nil, List.append_assoc]; done) | omega | (simp only [List.nil_append, List.length_append, List.length_cons, List.length_nil]; omega) | (simp [ei, eb, es, ec, gmin, gmax]; done) | simp [ei, eb, es, ec, gmin, gmax]) | first | exact rfl | exact Iff.rfl | exact ⟨rfl, rfl⟩ | exact decide_eq_true_iff | (constructor <;> first | exact rfl | (simp only [ei, eb, es, ec, gmin, gmax, List.map_append, List.flatMap_append, List.nil_append, List.append_nil, List.append_assoc]; done) | omega | (simp only [List.nil_append, List.length_append, List.length_cons, List.length_nil]; omega) | (simp [ei, eb, es, ec, gmin, gmax]; done)) | exact rfl | (simp only [ei, eb, es, ec, gmin, gmax, List.map_append, List.flatMap_append, List.nil_append, List.append_nil, List.append_assoc]; done) | omega | (simp only [List.nil_append, List.length_append, List.length_cons, List.length_nil]; omega) | (simp [ei, eb, es, ec, gmin, gmax]; done) | simp [ei, eb, es, ec, gmin, gmax]) : Ob p ∧ q := ⟨⟨h⟩, k⟩
noncomputable def g11 (a0 : (Int × List ByteArray × Int × Int)) : Option (List ByteArray) :=
 (g47 a0).bind fun v4 =>
 if ¬ (v4 = true) then
  some ([] : List ByteArray)
 else
  (
   (g48 a0).bind fun v7 =>
   ck (0 ≤ v7 ∧ v7 ≤ v7 ∧ v7 ≤ 9223372036854775807 ∧ v7 * ((16 : Nat) : Int) ≤ 140737488355328) <|
   ck (0 ≤ (0 : Int) ∧ (0 : Int) ≤ a0.2.2.1 ∧ a0.2.2.1 ≤ ((a0.2.1.length : Nat) : Int)) <|
   ck (0 ≤ (((min (((a0.2.1.drop (0 : Int).toNat).take (a0.2.2.1.toNat - (0 : Int).toNat)).length) v7.toNat) : Nat) : Int) ∧ (((min (((a0.2.1.drop (0 : Int).toNat).take (a0.2.2.1.toNat - (0 : Int).toNat)).length) v7.toNat) : Nat) : Int) ≤ ((v7.toNat : Nat) : Int) ∧ ((v7.toNat : Nat) : Int) ≤ ((v7.toNat : Nat) : Int)) <|
   ck (0 ≤ a0.2.2.2 ∧ a0.2.2.2 ≤ ((a0.2.1.length : Nat) : Int) ∧ ((a0.2.1.length : Nat) : Int) ≤ ((a0.2.1.length : Nat) : Int)) <|
   some (cpy (cpy (List.replicate v7.toNat (⟨#[]⟩ : ByteArray)) 0 ((a0.2.1.drop (0 : Int).toNat).take (a0.2.2.1.toNat - (0 : Int).toNat)) (min (((a0.2.1.drop (0 : Int).toNat).take (a0.2.2.1.toNat - (0 : Int).toNat)).length) v7.toNat)) ((((min (((a0.2.1.drop (0 : Int).toNat).take (a0.2.2.1.toNat - (0 : Int).toNat)).length) v7.toNat) : Nat) : Int).toNat) ((a0.2.1.drop a0.2.2.2.toNat).take (((a0.2.1.length : Nat) : Int).toNat - a0.2.2.2.toNat)) (min (((a0.2.1.drop a0.2.2.2.toNat).take (((a0.2.1.length : Nat) : Int).toNat - a0.2.2.2.toNat)).length) (((v7.toNat : Nat) : Int).toNat - (((min (((a0.2.1.drop (0 : Int).toNat).take (a0.2.2.1.toNat - (0 : Int).toNat)).length) v7.toNat) : Nat) : Int).toNat)))
  )
noncomputable def k11 : Eng.CS := { f := 11, calm := false, more := 1, ι := (Int × List ByteArray × Int × Int) × List ByteArray, ok := fun i => g11 i.1 = some i.2, rds := fun _ => [], args := fun i => [.pt [.w (.int .i64 i.1.1), .row 1 i.1.2.1.length (es i.1.2.1), .w (.int .i64 i.1.2.2.1), .w (.int .i64 i.1.2.2.2)]], res := fun i => .own 0, L' := fun i => [(0, .arr 9 1 i.2.length (es i.2))], rn := [(0, 0, 9, 1)] }
set_option maxRecDepth 8000 in
set_option maxHeartbeats 4000000 in
theorem k11_ok : CSOk Try.prog k11 := by
 refine R.cspec Try.func11 nm11 rfl ?_
 rintro ⟨a0, r⟩ hok q _ args hargs
 dsimp only [k11] at hargs ⊢
 match args, hargs with
 | [_], hargs =>
 obtain ⟨⟨P0, us0, rfl, hs0, _, hR0, hpc0⟩, _⟩ := hargs
 match us0, hR0, hpc0 with
 | [_, _, _, _], hR0, hpc0 =>
 obtain ⟨rfl, ⟨A0_1, c0_1, rfl, hcr0_1, _, hRr0_1⟩, rfl, rfl, _⟩ := hpc0
 refine ⟨envC [k47, k48] false [], 6, envC_ok (css_cons ⟨fun _ => k47_ok, fun h => (by cases h)⟩ (css_cons ⟨fun _ => k48_ok, fun h => (by cases h)⟩ (css_nil))), ?_⟩
 have H : Gives (g11 a0) (fun a => a = r) := ⟨r, hok, rfl⟩
 unfold g11 at H
 clear hok
 obtain ⟨v4, hv5, H⟩ := call_st H
 refine ⟨(a0, v4), ⟨hv5⟩, ⟨trivial⟩, ?_⟩
 refine And.intro ⟨hs0, _, rfl, hR0, rfl, ⟨_, _, rfl, hcr0_1, es_len.trans (Nat.mul_one _).symm, hRr0_1⟩, rfl, rfl, trivial⟩ ?_
 refine if_st H (fun h6 H => ?_) (fun h6 H => ?_)
 ·have hfin := fin_st H
  repeat refine mf1G2 ?_
  first | exact trivial | exact rfl
 ·obtain ⟨v7, hv8, H⟩ := call_st H
  refine ⟨(a0, v7), ⟨hv8⟩, ⟨trivial⟩, ?_⟩
  refine And.intro ⟨hs0, _, rfl, hR0, rfl, ⟨_, _, rfl, hcr0_1, es_len.trans (Nat.mul_one _).symm, hRr0_1⟩, rfl, rfl, trivial⟩ ?_
  refine ob_ck H fun h14 H => ?_
  intro n9 zs11 hn10 hz12
  subst hn10
  have hl13 : (List.replicate v7.toNat (⟨#[]⟩ : ByteArray)).length = v7.toNat := List.length_replicate
  obtain rfl : zs11 = es (List.replicate v7.toNat (⟨#[]⟩ : ByteArray)) := hz12.trans es_rep.symm
  refine And.intro ⟨by kernel_rfl⟩ ?_
  refine ⟨(Pn.calm 0 (Pn.calm 1 (Pn.calm 2 (Pn.calm 3 (Pn.calm 4 (Pn.calm 5 (Pn.calm 6 (Pn.calm 7 (Pn.calm 8 (Pn.calm 9 (Pn.eff 10 [0, 9, 4, 8, 3, 7, 2, 6, 1, 5] (Pn.calm 11 Pn.done) Pn.no))))))))))), ⟨by kernel_rfl⟩, ?_⟩
  refine ob_nc ?_
  refine ld_sl (A := A0_1) (n := a0.2.1.length) (c := c0_1) (rd_get hR0 rfl) ?_
  refine ob_nc ?_
  refine ld_int (e := a0.2.2.1) (rd_get hR0 rfl) ?_
  refine ob_sl hcr0_1 H fun h15 H => ?_
  have hs16 := sl_es hRr0_1 rfl hcr0_1 h15
  intro n17 hn18
  obtain rfl : n17 = ((a0.2.1.drop (0 : Int).toNat).take (a0.2.2.1.toNat - (0 : Int).toNat)).length := hn18.trans hs16.2.1.symm
  refine And.intro ?_ trivial
  refine rs_st hs16.1 (es_len.trans (Nat.mul_one _).symm) ?_
  refine And.intro ⟨es_one⟩ ?_
  intro r19 n21 zs23 hr20 hn22 hz24
  subst hr20
  subst hn22
  have hl25 : (cpy (List.replicate v7.toNat (⟨#[]⟩ : ByteArray)) 0 ((a0.2.1.drop (0 : Int).toNat).take (a0.2.2.1.toNat - (0 : Int).toNat)) (min (((a0.2.1.drop (0 : Int).toNat).take (a0.2.2.1.toNat - (0 : Int).toNat)).length) v7.toNat)).length = (List.replicate v7.toNat (⟨#[]⟩ : ByteArray)).length := len_cpy (by first | omega | (dsimp only; omega)) (by first | omega | (rw [len_vw (by omega)]; omega) | (dsimp only; rw [len_vw (by omega)]; omega))
  obtain rfl : zs23 = es (cpy (List.replicate v7.toNat (⟨#[]⟩ : ByteArray)) 0 ((a0.2.1.drop (0 : Int).toNat).take (a0.2.2.1.toNat - (0 : Int).toNat)) (min (((a0.2.1.drop (0 : Int).toNat).take (a0.2.2.1.toNat - (0 : Int).toNat)).length) v7.toNat)) := hz24.trans es_cpy0.symm
  refine And.intro ⟨fun _ _ _ h => h⟩ ?_
  refine And.intro ⟨by kernel_rfl⟩ ?_
  refine ⟨(Pn.calm 0 (Pn.calm 1 (Pn.calm 2 (Pn.calm 3 (Pn.calm 4 (Pn.calm 5 (Pn.calm 6 (Pn.calm 7 (Pn.calm 8 (Pn.calm 9 (Pn.calm 10 (Pn.calm 11 (Pn.eff 12 [2, 11, 0, 1, 6, 10, 5, 9, 4, 8, 3, 7] Pn.done Pn.no))))))))))))), ⟨by kernel_rfl⟩, ?_⟩
  refine ob_ck H fun h26 H => ?_
  try dsimp only at h26
  intro n27 hn28
  subst hn28
  refine ob_nc ?_
  refine ld_sl (A := A0_1) (n := a0.2.1.length) (c := c0_1) (rd_get hR0 rfl) ?_
  refine ob_nc ?_
  refine ld_int (e := a0.2.2.2) (rd_get hR0 rfl) ?_
  refine ob_sl hcr0_1 H fun h29 H => ?_
  have hs30 := sl_es hRr0_1 rfl hcr0_1 h29
  intro n31 hn32
  obtain rfl : n31 = ((a0.2.1.drop a0.2.2.2.toNat).take (((a0.2.1.length : Nat) : Int).toNat - a0.2.2.2.toNat)).length := hn32.trans hs30.2.1.symm
  refine And.intro ?_ trivial
  refine rs_st hs30.1 (es_len.trans (Nat.mul_one _).symm) ?_
  refine And.intro ⟨by first | omega | (dsimp only; omega), es_one⟩ ?_
  intro r33 n35 zs37 hr34 hn36 hz38
  subst hr34
  subst hn36
  have hl39 : (cpy (cpy (List.replicate v7.toNat (⟨#[]⟩ : ByteArray)) 0 ((a0.2.1.drop (0 : Int).toNat).take (a0.2.2.1.toNat - (0 : Int).toNat)) (min (((a0.2.1.drop (0 : Int).toNat).take (a0.2.2.1.toNat - (0 : Int).toNat)).length) v7.toNat)) ((((min (((a0.2.1.drop (0 : Int).toNat).take (a0.2.2.1.toNat - (0 : Int).toNat)).length) v7.toNat) : Nat) : Int).toNat) ((a0.2.1.drop a0.2.2.2.toNat).take (((a0.2.1.length : Nat) : Int).toNat - a0.2.2.2.toNat)) (min (((a0.2.1.drop a0.2.2.2.toNat).take (((a0.2.1.length : Nat) : Int).toNat - a0.2.2.2.toNat)).length) (((v7.toNat : Nat) : Int).toNat - (((min (((a0.2.1.drop (0 : Int).toNat).take (a0.2.2.1.toNat - (0 : Int).toNat)).length) v7.toNat) : Nat) : Int).toNat))).length = (cpy (List.replicate v7.toNat (⟨#[]⟩ : ByteArray)) 0 ((a0.2.1.drop (0 : Int).toNat).take (a0.2.2.1.toNat - (0 : Int).toNat)) (min (((a0.2.1.drop (0 : Int).toNat).take (a0.2.2.1.toNat - (0 : Int).toNat)).length) v7.toNat)).length := len_cpy (by first | omega | (dsimp only; omega)) (by first | omega | (rw [len_vw (by omega)]; omega) | (dsimp only; rw [len_vw (by omega)]; omega))
  obtain rfl : zs37 = es (cpy (cpy (List.replicate v7.toNat (⟨#[]⟩ : ByteArray)) 0 ((a0.2.1.drop (0 : Int).toNat).take (a0.2.2.1.toNat - (0 : Int).toNat)) (min (((a0.2.1.drop (0 : Int).toNat).take (a0.2.2.1.toNat - (0 : Int).toNat)).length) v7.toNat)) ((((min (((a0.2.1.drop (0 : Int).toNat).take (a0.2.2.1.toNat - (0 : Int).toNat)).length) v7.toNat) : Nat) : Int).toNat) ((a0.2.1.drop a0.2.2.2.toNat).take (((a0.2.1.length : Nat) : Int).toNat - a0.2.2.2.toNat)) (min (((a0.2.1.drop a0.2.2.2.toNat).take (((a0.2.1.length : Nat) : Int).toNat - a0.2.2.2.toNat)).length) (((v7.toNat : Nat) : Int).toNat - (((min (((a0.2.1.drop (0 : Int).toNat).take (a0.2.2.1.toNat - (0 : Int).toNat)).length) v7.toNat) : Nat) : Int).toNat))) := hz38.trans es_cpy.symm
  refine And.intro ⟨fun _ _ _ h => h⟩ ?_
  have hfin := fin_st H
  repeat refine mf1G2 ?_
  first | exact trivial | exact rfl
noncomputable def g57 (a0 : (Int × List ByteArray × Int × Int)) (a1 : Int) : Option ((Int × List ByteArray × Int × Int)) :=
 ck (inR .i64 (a0.2.2.2 - a0.2.2.1)) <|
 if a1 ≤ (a0.2.2.2 - a0.2.2.1) then
  some (a0.1, a0.2.1, a0.2.2.1, a0.2.2.2)
 else
  (
   (g48 (a0.1, a0.2.1, a0.2.2.1, a0.2.2.2)).bind fun v44 =>
   ck (inR .i64 (a1 + v44)) <|
   ck (inR .i64 ((a1 + v44) + 8)) <|
   ck (inR .i64 (((a0.2.1.length : Nat) : Int) + ((a1 + v44) + 8))) <|
   ck (0 ≤ ((a0.2.1.length : Nat) : Int) + ((a1 + v44) + 8) ∧ ((a0.2.1.length : Nat) : Int) + ((a1 + v44) + 8) ≤ ((a0.2.1.length : Nat) : Int) + ((a1 + v44) + 8) ∧ ((a0.2.1.length : Nat) : Int) + ((a1 + v44) + 8) ≤ 9223372036854775807 ∧ (((a0.2.1.length : Nat) : Int) + ((a1 + v44) + 8)) * ((16 : Nat) : Int) ≤ 140737488355328) <|
   ck (0 ≤ (0 : Int) ∧ (0 : Int) ≤ a0.2.2.1 ∧ a0.2.2.1 ≤ ((a0.2.1.length : Nat) : Int)) <|
   ck (inR .i64 (a0.2.2.2 + ((a1 + v44) + 8))) <|
   ck (0 ≤ a0.2.2.2 + ((a1 + v44) + 8) ∧ a0.2.2.2 + ((a1 + v44) + 8) ≤ (((((a0.2.1.length : Nat) : Int) + ((a1 + v44) + 8)).toNat : Nat) : Int) ∧ (((((a0.2.1.length : Nat) : Int) + ((a1 + v44) + 8)).toNat : Nat) : Int) ≤ (((((a0.2.1.length : Nat) : Int) + ((a1 + v44) + 8)).toNat : Nat) : Int)) <|
   ck (0 ≤ a0.2.2.2 ∧ a0.2.2.2 ≤ ((a0.2.1.length : Nat) : Int) ∧ ((a0.2.1.length : Nat) : Int) ≤ ((a0.2.1.length : Nat) : Int)) <|
   ck (inR .i64 (a0.2.2.2 + ((a1 + v44) + 8))) <|
   some (a0.1, (cpy (cpy (List.replicate (((a0.2.1.length : Nat) : Int) + ((a1 + v44) + 8)).toNat (⟨#[]⟩ : ByteArray)) 0 ((a0.2.1.drop ((0 : Int).toNat)).take (a0.2.2.1.toNat - (0 : Int).toNat)) (min (a0.2.2.1.toNat - (0 : Int).toNat) ((((a0.2.1.length : Nat) : Int) + ((a1 + v44) + 8)).toNat))) ((a0.2.2.2 + ((a1 + v44) + 8)).toNat) ((a0.2.1.drop a0.2.2.2.toNat).take (((a0.2.1.length : Nat) : Int).toNat - a0.2.2.2.toNat)) (min (((a0.2.1.length : Nat) : Int).toNat - a0.2.2.2.toNat) ((((((a0.2.1.length : Nat) : Int) + ((a1 + v44) + 8)).toNat : Nat) : Int).toNat - (a0.2.2.2 + ((a1 + v44) + 8)).toNat))), a0.2.2.1, a0.2.2.2 + ((a1 + v44) + 8))
  )
noncomputable def k57 : Eng.CS := { f := 57, calm := false, more := 3, ι := (Int × List ByteArray × Int × Int) × Int × (Int × List ByteArray × Int × Int), ok := fun i => g57 i.1 i.2.1 = some i.2.2, rds := fun _ => [], args := fun i => [.w (.lp 0 0), .w (.v (.int .i64 (i.2.1)))], res := fun i => .tup [], L' := fun i => [(0, .cells 43 [.v (.int .i64 (i.2.2.1)), .own 2, .v (.int .i64 (i.2.2.2.2.1)), .v (.int .i64 (i.2.2.2.2.2))]), (2, .arr 9 1 i.2.2.2.1.length (es i.2.2.2.1))], rn := [(100000, 1, 9, 1)], keys := 2, L := fun i => [(0, .cells 43 [.v (.int .i64 (i.1.1)), .own 1, .v (.int .i64 (i.1.2.2.1)), .v (.int .i64 (i.1.2.2.2))]), (1, .arr 9 1 i.1.2.1.length (es i.1.2.1))] }
set_option maxRecDepth 8000 in
set_option maxHeartbeats 4000000 in
theorem k57_ok : CSOk Try.prog k57 := by
 refine R.cspec Try.func57 nm57 rfl ?_
 rintro ⟨a0, a1, r⟩ hok q _ args hargs
 dsimp only [k57] at hargs ⊢
 match args, hargs with
 | [_, _], hargs =>
 obtain ⟨rfl, rfl, _⟩ := hargs
 refine ⟨envC [k48] false [], 6, envC_ok (css_cons ⟨fun _ => k48_ok, fun h => (by cases h)⟩ (css_nil)), ?_⟩
 have H : Gives (g57 a0 a1) (fun a => a = r) := ⟨r, hok, rfl⟩
 unfold g57 at H
 clear hok
 refine And.intro ⟨by kernel_rfl⟩ ?_
 refine ob_ck H fun h42 H => ?_
 refine if_st H (fun h43 H => ?_) (fun h43 H => ?_)
 ·have hfin := fin_st H
  repeat refine mf1G2 ?_
  first | exact trivial | exact rfl
 ·obtain ⟨v44, hv45, H⟩ := call_st H
  refine ⟨((a0.1, a0.2.1, a0.2.2.1, a0.2.2.2), v44), ⟨hv45⟩, ⟨trivial⟩, ?_⟩
  iterate 4 refine mo1G2 ?_
  refine ob_ck H fun h46 H => ?_
  refine ob_ck H fun h47 H => ?_
  refine ob_ck H fun h48 H => ?_
  refine ob_ck H fun h54 H => ?_
  intro n49 zs51 hn50 hz52
  subst hn50
  have hl53 : (List.replicate (((a0.2.1.length : Nat) : Int) + ((a1 + v44) + 8)).toNat (⟨#[]⟩ : ByteArray)).length = (((a0.2.1.length : Nat) : Int) + ((a1 + v44) + 8)).toNat := List.length_replicate
  obtain rfl : zs51 = es (List.replicate (((a0.2.1.length : Nat) : Int) + ((a1 + v44) + 8)).toNat (⟨#[]⟩ : ByteArray)) := hz52.trans es_rep.symm
  refine And.intro ⟨by kernel_rfl⟩ ?_
  refine ⟨(Pn.calm 0 (Pn.calm 1 (Pn.calm 2 (Pn.calm 3 (Pn.calm 4 (Pn.calm 5 (Pn.calm 6 (Pn.calm 7 (Pn.calm 8 (Pn.calm 9 (Pn.eff 10 [0, 9, 4, 8, 3, 7, 2, 6, 1, 5] Pn.done Pn.no))))))))))), ⟨by kernel_rfl⟩, ?_⟩
  refine ob_ck H fun h55 H => ?_
  try dsimp only at h55
  intro n56 hn57
  subst hn57
  refine And.intro ?_ trivial
  refine And.intro ⟨by first | omega | (dsimp only; omega)⟩ ?_
  refine And.intro ⟨(vw_one es_one)⟩ ?_
  intro r58 n60 zs62 hr59 hn61 hz63
  subst hr59
  subst hn61
  have hl64 : (cpy (List.replicate (((a0.2.1.length : Nat) : Int) + ((a1 + v44) + 8)).toNat (⟨#[]⟩ : ByteArray)) 0 ((a0.2.1.drop ((0 : Int).toNat)).take (a0.2.2.1.toNat - (0 : Int).toNat)) (min (a0.2.2.1.toNat - (0 : Int).toNat) ((((a0.2.1.length : Nat) : Int) + ((a1 + v44) + 8)).toNat))).length = (List.replicate (((a0.2.1.length : Nat) : Int) + ((a1 + v44) + 8)).toNat (⟨#[]⟩ : ByteArray)).length := len_cpy (by first | omega | (dsimp only; omega)) (by first | omega | (rw [len_vw (by omega)]; omega) | (dsimp only; rw [len_vw (by omega)]; omega))
  obtain rfl : zs62 = es (cpy (List.replicate (((a0.2.1.length : Nat) : Int) + ((a1 + v44) + 8)).toNat (⟨#[]⟩ : ByteArray)) 0 ((a0.2.1.drop ((0 : Int).toNat)).take (a0.2.2.1.toNat - (0 : Int).toNat)) (min (a0.2.2.1.toNat - (0 : Int).toNat) ((((a0.2.1.length : Nat) : Int) + ((a1 + v44) + 8)).toNat))) := by rw [hz63, es_vw]; exact es_cpy0.symm
  refine And.intro ⟨fun _ _ _ h => h⟩ ?_
  refine And.intro ⟨by kernel_rfl⟩ ?_
  refine ⟨(Pn.calm 0 (Pn.calm 1 (Pn.calm 2 (Pn.calm 3 (Pn.calm 4 (Pn.calm 5 (Pn.calm 6 (Pn.calm 7 (Pn.calm 8 (Pn.calm 9 (Pn.calm 10 (Pn.calm 11 (Pn.calm 12 (Pn.calm 13 (Pn.calm 14 (Pn.calm 15 (Pn.calm 16 (Pn.eff 17 [7, 16, 0, 6, 11, 15, 4, 5, 10, 14, 3, 9, 13, 2, 8, 12, 1] Pn.done Pn.no)))))))))))))))))), ⟨by kernel_rfl⟩, ?_⟩
  refine ob_ck H fun h65 H => ?_
  refine ob_ck H fun h66 H => ?_
  try dsimp only at h66
  intro n67 hn68
  subst hn68
  refine ob_ck H fun h69 H => ?_
  try dsimp only at h69
  intro n70 hn71
  subst hn71
  refine And.intro ?_ trivial
  refine And.intro ⟨by first | omega | (dsimp only; omega)⟩ ?_
  refine And.intro ⟨by first | omega | (dsimp only; omega), (vw_one es_one)⟩ ?_
  intro r72 n74 zs76 hr73 hn75 hz77
  subst hr73
  subst hn75
  have hl78 : (cpy (cpy (List.replicate (((a0.2.1.length : Nat) : Int) + ((a1 + v44) + 8)).toNat (⟨#[]⟩ : ByteArray)) 0 ((a0.2.1.drop ((0 : Int).toNat)).take (a0.2.2.1.toNat - (0 : Int).toNat)) (min (a0.2.2.1.toNat - (0 : Int).toNat) ((((a0.2.1.length : Nat) : Int) + ((a1 + v44) + 8)).toNat))) ((a0.2.2.2 + ((a1 + v44) + 8)).toNat) ((a0.2.1.drop a0.2.2.2.toNat).take (((a0.2.1.length : Nat) : Int).toNat - a0.2.2.2.toNat)) (min (((a0.2.1.length : Nat) : Int).toNat - a0.2.2.2.toNat) ((((((a0.2.1.length : Nat) : Int) + ((a1 + v44) + 8)).toNat : Nat) : Int).toNat - (a0.2.2.2 + ((a1 + v44) + 8)).toNat))).length = (cpy (List.replicate (((a0.2.1.length : Nat) : Int) + ((a1 + v44) + 8)).toNat (⟨#[]⟩ : ByteArray)) 0 ((a0.2.1.drop ((0 : Int).toNat)).take (a0.2.2.1.toNat - (0 : Int).toNat)) (min (a0.2.2.1.toNat - (0 : Int).toNat) ((((a0.2.1.length : Nat) : Int) + ((a1 + v44) + 8)).toNat))).length := len_cpy (by first | omega | (dsimp only; omega)) (by first | omega | (rw [len_vw (by omega)]; omega) | (dsimp only; rw [len_vw (by omega)]; omega))
  obtain rfl : zs76 = es (cpy (cpy (List.replicate (((a0.2.1.length : Nat) : Int) + ((a1 + v44) + 8)).toNat (⟨#[]⟩ : ByteArray)) 0 ((a0.2.1.drop ((0 : Int).toNat)).take (a0.2.2.1.toNat - (0 : Int).toNat)) (min (a0.2.2.1.toNat - (0 : Int).toNat) ((((a0.2.1.length : Nat) : Int) + ((a1 + v44) + 8)).toNat))) ((a0.2.2.2 + ((a1 + v44) + 8)).toNat) ((a0.2.1.drop a0.2.2.2.toNat).take (((a0.2.1.length : Nat) : Int).toNat - a0.2.2.2.toNat)) (min (((a0.2.1.length : Nat) : Int).toNat - a0.2.2.2.toNat) ((((((a0.2.1.length : Nat) : Int) + ((a1 + v44) + 8)).toNat : Nat) : Int).toNat - (a0.2.2.2 + ((a1 + v44) + 8)).toNat))) := by rw [hz77, es_vw]; exact es_cpy.symm
  refine And.intro ⟨fun _ _ _ h => h⟩ ?_
  refine ob_ck H fun h79 H => ?_
  have hfin := fin_st H
  repeat refine mf1G2 ?_
  first | exact trivial | exact rfl
noncomputable def g12 (a0 : (Int × List ByteArray × Int × Int)) (a1 : Int) : Option (Int × (Int × List ByteArray × Int × Int)) :=
 (g47 (a0.1, a0.2.1, a0.2.2.1, a0.2.2.2)).bind fun v83 =>
 if ¬ (v83 = true) then
  some (0, (a0.1, a0.2.1, a0.2.2.1, a0.2.2.2))
 else
  (
   (g49 (a0.1, a0.2.1, a0.2.2.1, a0.2.2.2) a1).bind fun v86 =>
   if v86 < a0.2.2.1 then
    (
     ck (inR .i64 (a0.2.2.1 - v86)) <|
     ck (inR .i64 (a0.2.2.2 - (a0.2.2.1 - v86))) <|
     ck (0 ≤ a0.2.2.2 - (a0.2.2.1 - v86) ∧ a0.2.2.2 - (a0.2.2.1 - v86) ≤ a0.2.2.2 ∧ a0.2.2.2 ≤ ((a0.2.1.length : Nat) : Int)) <|
     ck (0 ≤ v86 ∧ v86 ≤ a0.2.2.1 ∧ a0.2.2.1 ≤ ((a0.2.1.length : Nat) : Int)) <|
     ck (inR .i64 (a0.2.2.2 - (a0.2.2.1 - v86))) <|
     some (v86, (a0.1, (cpy a0.2.1 ((a0.2.2.2 - (a0.2.2.1 - v86)).toNat) ((a0.2.1.drop v86.toNat).take (a0.2.2.1.toNat - v86.toNat)) (min (a0.2.2.1.toNat - v86.toNat) (a0.2.2.2.toNat - (a0.2.2.2 - (a0.2.2.1 - v86)).toNat))), v86, a0.2.2.2 - (a0.2.2.1 - v86)))
    )
   else
    (
     ck (inR .i64 (v86 - a0.2.2.1)) <|
     ck (0 ≤ a0.2.2.1 ∧ a0.2.2.1 ≤ ((a0.2.1.length : Nat) : Int) ∧ ((a0.2.1.length : Nat) : Int) ≤ ((a0.2.1.length : Nat) : Int)) <|
     ck (inR .i64 (a0.2.2.2 + (v86 - a0.2.2.1))) <|
     ck (0 ≤ a0.2.2.2 ∧ a0.2.2.2 ≤ a0.2.2.2 + (v86 - a0.2.2.1) ∧ a0.2.2.2 + (v86 - a0.2.2.1) ≤ ((a0.2.1.length : Nat) : Int)) <|
     ck (inR .i64 (a0.2.2.2 + (v86 - a0.2.2.1))) <|
     some (v86, (a0.1, (cpy a0.2.1 a0.2.2.1.toNat ((a0.2.1.drop a0.2.2.2.toNat).take ((a0.2.2.2 + (v86 - a0.2.2.1)).toNat - a0.2.2.2.toNat)) (min ((a0.2.2.2 + (v86 - a0.2.2.1)).toNat - a0.2.2.2.toNat) (((a0.2.1.length : Nat) : Int).toNat - a0.2.2.1.toNat))), v86, a0.2.2.2 + (v86 - a0.2.2.1)))
    )
  )
noncomputable def k12 : Eng.CS := { f := 12, calm := false, more := 3, ι := (Int × List ByteArray × Int × Int) × Int × (Int × (Int × List ByteArray × Int × Int)), ok := fun i => g12 i.1 i.2.1 = some i.2.2, rds := fun _ => [], args := fun i => [.w (.lp 0 0), .w (.v (.int .i64 (i.2.1)))], res := fun i => .v (.int .i64 (i.2.2.1)), L' := fun i => [(0, .cells 43 [.v (.int .i64 (i.2.2.2.1)), .own 2, .v (.int .i64 (i.2.2.2.2.2.1)), .v (.int .i64 (i.2.2.2.2.2.2))]), (2, .arr 9 1 i.2.2.2.2.1.length (es i.2.2.2.2.1))], rn := [(100000, 1, 9, 1)], keys := 2, L := fun i => [(0, .cells 43 [.v (.int .i64 (i.1.1)), .own 1, .v (.int .i64 (i.1.2.2.1)), .v (.int .i64 (i.1.2.2.2))]), (1, .arr 9 1 i.1.2.1.length (es i.1.2.1))] }
set_option maxRecDepth 8000 in
set_option maxHeartbeats 4000000 in
theorem k12_ok : CSOk Try.prog k12 := by
 refine R.cspec Try.func12 nm12 rfl ?_
 rintro ⟨a0, a1, r⟩ hok q _ args hargs
 dsimp only [k12] at hargs ⊢
 match args, hargs with
 | [_, _], hargs =>
 obtain ⟨rfl, rfl, _⟩ := hargs
 refine ⟨envC [k47, k49] false [], 6, envC_ok (css_cons ⟨fun _ => k47_ok, fun h => (by cases h)⟩ (css_cons ⟨fun _ => k49_ok, fun h => (by cases h)⟩ (css_nil))), ?_⟩
 have H : Gives (g12 a0 a1) (fun a => a = r) := ⟨r, hok, rfl⟩
 unfold g12 at H
 clear hok
 obtain ⟨v83, hv84, H⟩ := call_st H
 refine ⟨((a0.1, a0.2.1, a0.2.2.1, a0.2.2.2), v83), ⟨hv84⟩, ⟨trivial⟩, ?_⟩
 iterate 4 refine mo1G2 ?_
 refine if_st H (fun h85 H => ?_) (fun h85 H => ?_)
 ·have hfin := fin_st H
  repeat refine mf1G2 ?_
  first | exact trivial | exact rfl
 ·obtain ⟨v86, hv87, H⟩ := call_st H
  refine ⟨((a0.1, a0.2.1, a0.2.2.1, a0.2.2.2), a1, v86), ⟨hv87⟩, ⟨trivial⟩, ?_⟩
  iterate 4 refine mo1G2 ?_
  refine And.intro ⟨rfl⟩ ?_
  refine if_st H (fun h121 H => ?_) (fun h121 H => ?_)
  ·refine ob_ck H fun h122 H => ?_
   refine And.intro ⟨by kernel_rfl⟩ ?_
   refine ⟨(Pn.calm 0 (Pn.calm 1 (Pn.calm 2 (Pn.calm 3 (Pn.calm 4 (Pn.calm 5 (Pn.calm 6 (Pn.calm 7 (Pn.calm 8 (Pn.calm 9 (Pn.calm 10 (Pn.calm 11 (Pn.calm 12 (Pn.calm 13 (Pn.calm 14 (Pn.calm 15 (Pn.calm 16 (Pn.calm 17 (Pn.calm 18 (Pn.calm 19 (Pn.calm 20 (Pn.calm 21 (Pn.calm 22 (Pn.calm 23 (Pn.calm 24 (Pn.eff 25 [14, 24, 3, 9, 13, 18, 19, 23, 2, 7, 8, 12, 17, 22, 1, 6, 11, 16, 21, 0, 5, 10, 15, 20, 4] Pn.done Pn.no)))))))))))))))))))))))))), ⟨by kernel_rfl⟩, ?_⟩
   refine ob_ck H fun h123 H => ?_
   refine ob_ck H fun h124 H => ?_
   try dsimp only at h124
   intro n125 hn126
   subst hn126
   refine ob_ck H fun h127 H => ?_
   try dsimp only at h127
   intro n128 hn129
   subst hn129
   refine And.intro ?_ trivial
   refine And.intro ⟨by first | omega | (dsimp only; omega)⟩ ?_
   refine And.intro ⟨by first | omega | (dsimp only; omega), (vw_one es_one)⟩ ?_
   intro r130 n132 zs134 hr131 hn133 hz135
   subst hr131
   subst hn133
   have hl136 : (cpy a0.2.1 ((a0.2.2.2 - (a0.2.2.1 - v86)).toNat) ((a0.2.1.drop v86.toNat).take (a0.2.2.1.toNat - v86.toNat)) (min (a0.2.2.1.toNat - v86.toNat) (a0.2.2.2.toNat - (a0.2.2.2 - (a0.2.2.1 - v86)).toNat))).length = a0.2.1.length := len_cpy (by first | omega | (dsimp only; omega)) (by first | omega | (rw [len_vw (by omega)]; omega) | (dsimp only; rw [len_vw (by omega)]; omega))
   obtain rfl : zs134 = es (cpy a0.2.1 ((a0.2.2.2 - (a0.2.2.1 - v86)).toNat) ((a0.2.1.drop v86.toNat).take (a0.2.2.1.toNat - v86.toNat)) (min (a0.2.2.1.toNat - v86.toNat) (a0.2.2.2.toNat - (a0.2.2.2 - (a0.2.2.1 - v86)).toNat))) := by rw [hz135, es_vw]; exact es_cpy.symm
   refine And.intro ⟨fun _ _ _ h => h⟩ ?_
   refine ob_ck H fun h137 H => ?_
   have hfin := fin_st H
   repeat refine mf1G2 ?_
   first | exact trivial | exact rfl
  ·refine ob_ck H fun h138 H => ?_
   refine And.intro ⟨by kernel_rfl⟩ ?_
   refine ⟨(Pn.calm 0 (Pn.calm 1 (Pn.calm 2 (Pn.calm 3 (Pn.calm 4 (Pn.calm 5 (Pn.calm 6 (Pn.calm 7 (Pn.calm 8 (Pn.calm 9 (Pn.calm 10 (Pn.calm 11 (Pn.calm 12 (Pn.calm 13 (Pn.calm 14 (Pn.calm 15 (Pn.calm 16 (Pn.calm 17 (Pn.calm 18 (Pn.calm 19 (Pn.calm 20 (Pn.calm 21 (Pn.calm 22 (Pn.calm 23 (Pn.eff 24 [8, 23, 3, 7, 12, 16, 22, 2, 6, 11, 15, 20, 21, 1, 5, 10, 14, 19, 0, 4, 9, 13, 18, 17] Pn.done Pn.no))))))))))))))))))))))))), ⟨by kernel_rfl⟩, ?_⟩
   refine ob_ck H fun h139 H => ?_
   try dsimp only at h139
   intro n140 hn141
   subst hn141
   refine ob_ck H fun h142 H => ?_
   refine ob_ck H fun h143 H => ?_
   try dsimp only at h143
   intro n144 hn145
   subst hn145
   refine And.intro ?_ trivial
   refine And.intro ⟨by first | omega | (dsimp only; omega)⟩ ?_
   refine And.intro ⟨by first | omega | (dsimp only; omega), (vw_one es_one)⟩ ?_
   intro r146 n148 zs150 hr147 hn149 hz151
   subst hr147
   subst hn149
   have hl152 : (cpy a0.2.1 a0.2.2.1.toNat ((a0.2.1.drop a0.2.2.2.toNat).take ((a0.2.2.2 + (v86 - a0.2.2.1)).toNat - a0.2.2.2.toNat)) (min ((a0.2.2.2 + (v86 - a0.2.2.1)).toNat - a0.2.2.2.toNat) (((a0.2.1.length : Nat) : Int).toNat - a0.2.2.1.toNat))).length = a0.2.1.length := len_cpy (by first | omega | (dsimp only; omega)) (by first | omega | (rw [len_vw (by omega)]; omega) | (dsimp only; rw [len_vw (by omega)]; omega))
   obtain rfl : zs150 = es (cpy a0.2.1 a0.2.2.1.toNat ((a0.2.1.drop a0.2.2.2.toNat).take ((a0.2.2.2 + (v86 - a0.2.2.1)).toNat - a0.2.2.2.toNat)) (min ((a0.2.2.2 + (v86 - a0.2.2.1)).toNat - a0.2.2.2.toNat) (((a0.2.1.length : Nat) : Int).toNat - a0.2.2.1.toNat))) := by rw [hz151, es_vw]; exact es_cpy.symm
   refine And.intro ⟨fun _ _ _ h => h⟩ ?_
   refine ob_ck H fun h153 H => ?_
   have hfin := fin_st H
   repeat refine mf1G2 ?_
   first | exact trivial | exact rfl
end Go.Proofs.Ytenjkphlbdhaiaa
end
section
namespace Go.Proofs.Ytenjkphlbdhaiaa
open Go Go.Eng
theorem mo1G3 {p q : Prop} (k : q) (h : p := by first | exact rfl | exact Iff.rfl | exact ⟨rfl, rfl⟩ | exact decide_eq_true_iff | (constructor <;> first | exact rfl | (simp only [ei, eb, es, ec, c135, gmin, gmax, List.map_append, List.flatMap_append, List.nil_append, List.append_nil, List.append_assoc]; done) | omega | (simp only [List.nil_append, List.length_append, List.length_cons, List.length_nil]; omega) | (simp [ei, eb, es, ec, c135, gmin, gmax]; done)) | exact rfl | (simp only [ei, eb, es, ec, c135, gmin, gmax, List.map_append, List.flatMap_append, List.nil_append, List.append_nil, List.append_assoc]; done) | omega | (simp only [List.nil_append, List.length_append, List.length_cons, List.length_nil]; omega) | (simp [ei, eb, es, ec, c135, gmin, gmax]; done) | simp [ei, eb, es, ec, c135, gmin, gmax]) : Ob p ∧ q := ⟨⟨h⟩, k⟩
theorem mf1G3 {p q : Prop} (k : q) (h : p := by first | (rw [← hfin] <;> first | exact rfl | exact Iff.rfl | exact ⟨rfl, rfl⟩ | exact decide_eq_true_iff | (constructor <;> first | exact rfl | (simp only [ei, eb, es, ec, c135, gmin, gmax, List.map_append, List.flatMap_append, List.nil_append, List.append_nil, List.append_assoc]; done) | omega | (simp only [List.nil_append, List.length_append, List.length_cons, List.length_nil]; omega) | (simp [ei, eb, es, ec, c135, gmin, gmax]; done)) | exact rfl | (simp only [ei, eb, es, ec, c135, gmin, gmax, List.map_append, List.flatMap_append, List.nil_append, List.append_nil, List.append_assoc]; done) | omega | (simp only [List.nil_append, List.length_append, List.length_cons, List.length_nil]; omega) | (simp [ei, eb, es, ec, c135, gmin, gmax]; done) | simp [ei, eb, es, ec, c135, gmin, gmax]) | first | exact rfl | exact Iff.rfl | exact ⟨rfl, rfl⟩ | exact decide_eq_true_iff | (constructor <;> first | exact rfl | (simp only [ei, eb, es, ec, c135, gmin, gmax, List.map_append, List.flatMap_append, List.nil_append, List.append_nil, List.append_assoc]; done) | omega | (simp only [List.nil_append, List.length_append, List.length_cons, List.length_nil]; omega) | (simp [ei, eb, es, ec, c135, gmin, gmax]; done)) | exact rfl | (simp only [ei, eb, es, ec, c135, gmin, gmax, List.map_append, List.flatMap_append, List.nil_append, List.append_nil, List.append_assoc]; done) | omega | (simp only [List.nil_append, List.length_append, List.length_cons, List.length_nil]; omega) | (simp [ei, eb, es, ec, c135, gmin, gmax]; done) | simp [ei, eb, es, ec, c135, gmin, gmax]) : Ob p ∧ q := ⟨⟨h⟩, k⟩
noncomputable def g21 (a0 : (Int × List ByteArray × Int × Int)) (a1 : List ByteArray) : Option (Int × (Int × List ByteArray × Int × Int)) :=
 (g47 (a0.1, a0.2.1, a0.2.2.1, a0.2.2.2)).bind fun v4 =>
 if ¬ (v4 = true) then
  some (4, (a0.1, a0.2.1, a0.2.2.1, a0.2.2.2))
 else
  (
   jn (α := _) (β := Unit) (fun k39 =>
     (loopO (σ := Int) (ρ := (Unit) ⊕ (Unit)) (fun s42 =>
       if s42 < ((a1.length : Nat) : Int) then
        (
         ck (0 ≤ s42 ∧ s42 < ((a1.length : Nat) : Int)) <|
         (g56 (a1.getD s42.toNat default)).bind fun v59 =>
         if ¬ (v59 = true) then
          some (.out (.inl (())))
         else
          (
           ck (inR .i64 (s42 + 1)) <|
           some (.go (s42 + 1))
          )
        )
       else
        some (.out (.inr (())))
      ) 0).bind fun o56 =>
     sm o56 (fun o63 =>
       some (1, (a0.1, a0.2.1, a0.2.2.1, a0.2.2.2))
      ) (fun o64 =>
       k39 ()
      )
   ) (fun v38 =>
    (g48 (a0.1, a0.2.1, a0.2.2.1, a0.2.2.2)).bind fun v70 =>
    ck (inR .i64 (a0.1 - v70)) <|
    if (a0.1 - v70) < ((a1.length : Nat) : Int) then
     some (3, (a0.1, a0.2.1, a0.2.2.1, a0.2.2.2))
    else
     (
      (g57 (a0.1, a0.2.1, a0.2.2.1, a0.2.2.2) ((a1.length : Nat) : Int)).bind fun v74 =>
      ck (0 ≤ v74.2.2.1 ∧ v74.2.2.1 ≤ v74.2.2.2 ∧ v74.2.2.2 ≤ ((v74.2.1.length : Nat) : Int)) <|
      ck (inR .i64 (v74.2.2.1 + (((min a1.length (v74.2.2.2.toNat - v74.2.2.1.toNat)) : Nat) : Int))) <|
      some (0, (v74.1, (cpy v74.2.1 v74.2.2.1.toNat a1 (min a1.length (v74.2.2.2.toNat - v74.2.2.1.toNat))), v74.2.2.1 + (((min a1.length (v74.2.2.2.toNat - v74.2.2.1.toNat)) : Nat) : Int), v74.2.2.2))
     )
   )
  )
noncomputable def k21 : Eng.CS := { f := 21, calm := false, more := 3, ι := (Int × List ByteArray × Int × Int) × (List ByteArray) × (Int × (Int × List ByteArray × Int × Int)), ok := fun i => g21 i.1 i.2.1 = some i.2.2, rds := fun _ => [], args := fun i => [.w (.lp 0 0), .sl 1 i.2.1.length (es i.2.1)], res := fun i => .v (.int .i64 (i.2.2.1)), L' := fun i => [(0, .cells 43 [.v (.int .i64 (i.2.2.2.1)), .own 2, .v (.int .i64 (i.2.2.2.2.2.1)), .v (.int .i64 (i.2.2.2.2.2.2))]), (2, .arr 9 1 i.2.2.2.2.1.length (es i.2.2.2.2.1))], rn := [(100000, 1, 9, 1)], keys := 2, L := fun i => [(0, .cells 43 [.v (.int .i64 (i.1.1)), .own 1, .v (.int .i64 (i.1.2.2.1)), .v (.int .i64 (i.1.2.2.2))]), (1, .arr 9 1 i.1.2.1.length (es i.1.2.1))] }
set_option maxRecDepth 8000 in
set_option maxHeartbeats 4000000 in
theorem k21_ok : CSOk Try.prog k21 := by
 refine R.cspec Try.func21 nm21 rfl ?_
 rintro ⟨a0, a1, r⟩ hok q _ args hargs
 dsimp only [k21] at hargs ⊢
 match args, hargs with
 | [_, _], hargs =>
 obtain ⟨rfl, ⟨A1, cp1, rfl, hc1, _, hR1⟩, _⟩ := hargs
 refine ⟨envC [k47, k48, k56, k57] false [(21, 9)], 6, envC_ok (css_cons ⟨fun _ => k47_ok, fun h => (by cases h)⟩ (css_cons ⟨fun _ => k48_ok, fun h => (by cases h)⟩ (css_cons ⟨fun _ => k56_ok, fun h => (by cases h)⟩ (css_cons ⟨fun h => (by cases h), fun _ => k57_ok⟩ (css_nil))))), ?_⟩
 have H : Gives (g21 a0 a1) (fun a => a = r) := ⟨r, hok, rfl⟩
 unfold g21 at H
 clear hok
 obtain ⟨v4, hv5, H⟩ := call_st H
 refine ⟨((a0.1, a0.2.1, a0.2.2.1, a0.2.2.2), v4), ⟨hv5⟩, ⟨trivial⟩, ?_⟩
 iterate 4 refine mo1G3 ?_
 refine if_st H (fun h6 H => ?_) (fun h6 H => ?_)
 ·have hfin := fin_st H
  repeat refine mf1G3 ?_
  first | exact trivial | exact rfl
 ·refine R.cut_fam H 12 [0, 1] [] (fun v38 => []) (fun v38 => []) [(1, .arr 9 1 (a0.2.1.length) (es (a0.2.1))), (0, .cells 43 [.v (.int .i64 (a0.1)), .own 1, .v (.int .i64 (a0.2.2.1)), .v (.int .i64 (a0.2.2.2))])] 0 (fun H => ?_)
  refine And.intro ?_ ?_
  ·refine R.loop_fam (bind_st H) [0, 1, 10, 11] [] (fun _ s42 => [(12, .v (.int .i64 (s42)))]) (fun _ s42 => []) 0 (fun n65 H => ?_)
   refine ⟨(n65, _), ⟨H⟩, ⟨trivial⟩, ?_⟩
   repeat refine mo1G3 ?_
   rintro ⟨m0, s42⟩ H _
   obtain ⟨m43, hm0, H⟩ := IG_succ H
   dsimp only at hm0
   subst hm0
   try dsimp only at H
   refine if_st H (fun h57 H => ?_) (fun h57 H => ?_)
   ·refine ob_ix hR1 (fun h => es0 h) H fun h58 H => ?_
    refine ld_str (e := a1.getD s42.toNat default) (rd_get hR1 (es_get (l := a1) (tn h58))) ?_
    obtain ⟨v59, hv60, H⟩ := call_st H
    refine ⟨(a1.getD s42.toNat default, v59), ⟨hv60⟩, ⟨trivial⟩, ?_⟩
    refine And.intro ⟨rfl⟩ ?_
    refine if_st H (fun h61 H => ?_) (fun h61 H => ?_)
    ·replace H := some_st H
     dsimp only [stp, sm] at H
     have hfin := fin_st H
     repeat refine mf1G3 ?_
     first | exact trivial | exact rfl
    ·refine ob_ck H fun h62 H => ?_
     replace H := some_st H
     refine ⟨(m43, s42 + 1), ⟨H, Nat.lt_succ_self _⟩, ⟨trivial⟩, ⟨rfl⟩, ?_⟩
     repeat refine mo1G3 ?_
     first | exact trivial | exact rfl
   ·replace H := some_st H
    dsimp only [stp, sm] at H
    refine ⟨(), ⟨H⟩, ⟨rfl⟩, ?_⟩
    repeat refine mo1G3 ?_
    first | exact trivial | exact rfl
  ·intro v38 H
   refine And.intro ⟨by kernel_rfl⟩ ?_
   obtain ⟨v70, hv71, H⟩ := call_st H
   refine ⟨((a0.1, a0.2.1, a0.2.2.1, a0.2.2.2), v70), ⟨hv71⟩, ⟨trivial⟩, ?_⟩
   iterate 4 refine mo1G3 ?_
   refine ob_ck H fun h72 H => ?_
   refine if_st H (fun h73 H => ?_) (fun h73 H => ?_)
   ·have hfin := fin_st H
    repeat refine mf1G3 ?_
    first | exact trivial | exact rfl
   ·obtain ⟨v74, hv75, H⟩ := call_st H
    refine ⟨((a0.1, a0.2.1, a0.2.2.1, a0.2.2.2), ((a1.length : Nat) : Int), v74), ⟨hv75⟩, ⟨trivial⟩, ?_⟩
    iterate 2 refine And.intro ⟨rfl⟩ ?_
    iterate 4 refine mo1G3 ?_
    refine And.intro ⟨by kernel_rfl⟩ ?_
    refine ⟨(Pn.calm 0 (Pn.calm 1 (Pn.calm 2 (Pn.calm 3 (Pn.calm 4 (Pn.calm 5 (Pn.calm 6 (Pn.calm 7 (Pn.calm 8 (Pn.calm 9 (Pn.calm 10 (Pn.calm 11 (Pn.calm 12 (Pn.calm 13 (Pn.calm 14 (Pn.calm 15 (Pn.calm 16 (Pn.calm 17 (Pn.eff 18 [16, 17, 7, 11, 15, 6, 10, 14, 5, 9, 13, 4, 8, 12] (Pn.calm 19 (Pn.calm 20 (Pn.calm 21 (Pn.eff 22 [21, 19, 18, 0, 1, 2, 3, 4, 5, 6, 7, 8, 9, 10, 11, 12, 13, 14, 15, 16, 17, 20] Pn.done Pn.no)))) Pn.no))))))))))))))))))), ⟨by kernel_rfl⟩, ?_⟩
    refine ob_ck H fun h76 H => ?_
    try dsimp only at h76
    intro n77 hn78
    subst hn78
    refine And.intro ?_ trivial
    refine rs_st hR1 (es_len.trans (Nat.mul_one _).symm) ?_
    refine And.intro ⟨by first | omega | (dsimp only; omega), es_one⟩ ?_
    intro r79 n81 zs83 hr80 hn82 hz84
    subst hr80
    subst hn82
    have hl85 : (cpy v74.2.1 v74.2.2.1.toNat a1 (min a1.length (v74.2.2.2.toNat - v74.2.2.1.toNat))).length = v74.2.1.length := len_cpy (by first | omega | (dsimp only; omega)) (by first | omega | (rw [len_vw (by omega)]; omega) | (dsimp only; rw [len_vw (by omega)]; omega))
    obtain rfl : zs83 = es (cpy v74.2.1 v74.2.2.1.toNat a1 (min a1.length (v74.2.2.2.toNat - v74.2.2.1.toNat))) := hz84.trans es_cpy.symm
    refine And.intro ⟨fun _ _ _ h => h⟩ ?_
    refine ob_ck H fun h86 H => ?_
    refine And.intro ?_ trivial
    refine And.intro ⟨fun _ _ _ h => h⟩ ?_
    have hfin := fin_st H
    repeat refine mf1G3 ?_
    first | exact trivial | exact rfl
end Go.Proofs.Ytenjkphlbdhaiaa
end
