/-
  Functions of the program, lifted: each with its walk. Printed by lift.py.
  Nothing here is trusted.
-/
import Derived.Test.YtcnofjjiepcpjaaEngT
import Derived.Test.YtcnofjjiepcpjaaEngLc
set_option linter.unusedVariables false
set_option linter.unusedSimpArgs false
namespace Go.Proofs.Ytcnofjjiepcpjaa
open Go Go.Eng

/-- placard/runes.shapeOf -/
noncomputable def g57 (a0 : Int) : Option ((Int × Int × Int × Int)) :=
  if a0 < 128 then
    (
      ck (inR .i32 a0) <|
      some (1, 0, 0, a0)
    )
  else
    (
      if a0 < 194 then
        some (0, 0, 0, 0)
      else
        (
          if a0 < 224 then
            (
              ck (inR .i32 (bits .and .u8 a0 31)) <|
              some (2, 128, 191, bits .and .u8 a0 31)
            )
          else
            (
              if a0 = 224 then
                some (3, 160, 191, 0)
              else
                (
                  if a0 = 237 then
                    some (3, 128, 159, 13)
                  else
                    (
                      if a0 < 240 then
                        (
                          ck (inR .i32 (bits .and .u8 a0 15)) <|
                          some (3, 128, 191, bits .and .u8 a0 15)
                        )
                      else
                        (
                          if a0 = 240 then
                            some (4, 144, 191, 0)
                          else
                            (
                              if a0 < 244 then
                                (
                                  ck (inR .i32 (bits .and .u8 a0 7)) <|
                                  some (4, 128, 191, bits .and .u8 a0 7)
                                )
                              else
                                (
                                  if a0 = 244 then
                                    some (4, 128, 143, 4)
                                  else
                                    some (0, 0, 0, 0)
                                )
                            )
                        )
                    )
                )
            )
        )
    )
noncomputable def k57 : Eng.CS := { f := 57, calm := true, more := 0, ι := Int × (Int × Int × Int × Int), ok := fun i => g57 i.1 = some i.2, rds := fun _ => [], args := fun i => [.w (.v (.int .u8 (i.1)))], res := fun i => .agg [.v (.int .i64 (i.2.1)), .v (.int .u8 (i.2.2.1)), .v (.int .u8 (i.2.2.2.1)), .v (.int .i32 (i.2.2.2.2))] }
set_option maxRecDepth 8000 in
set_option maxHeartbeats 4000000 in
theorem k57_ok : CalmOk Try.prog k57 := by
  refine R.calmspec Try.func57 nm57 rfl ?_
  rintro ⟨a0, r⟩ hok q _ args hargs
  match args, hargs with
  | [_], hargs =>
  obtain ⟨rfl, _⟩ := hargs
  refine ⟨envC [] false [], 6, envC_ok (css_nil), rfl, (by intro x hx; simp only [List.mem_cons, List.not_mem_nil, or_false] at hx; rcases hx with rfl <;> rfl), ?_⟩
  have H : Gives (g57 a0) (fun a => a = r) := ⟨r, hok, rfl⟩
  unfold g57 at H
  clear hok
  refine if_st H (fun h14 H => ?_) (fun h14 H => ?_)
  · refine ob_ck H fun h15 H => ?_
    have hfin := fin_st H
    repeat (refine And.intro (Ob.mk (by first | (rw [← hfin] <;> first | exact rfl | exact Iff.rfl | exact ⟨rfl, rfl⟩ | exact decide_eq_true_iff | (refine ⟨?_, ?_⟩ <;> first | exact rfl | (simp only [ei, eb, es, ec, List.map_append, List.flatMap_append, List.nil_append, List.append_nil, List.append_assoc]; done) | omega | (simp only [List.nil_append, List.length_append, List.length_cons, List.length_nil]; omega) | (simp [ei, eb, es, ec]; done)) | (constructor <;> first | exact rfl | (simp only [ei, eb, es, ec, List.map_append, List.flatMap_append, List.nil_append, List.append_nil, List.append_assoc]; done) | omega | (simp only [List.nil_append, List.length_append, List.length_cons, List.length_nil]; omega) | (simp [ei, eb, es, ec]; done)) | exact rfl | (simp only [ei, eb, es, ec, List.map_append, List.flatMap_append, List.nil_append, List.append_nil, List.append_assoc]; done) | omega | (simp only [List.nil_append, List.length_append, List.length_cons, List.length_nil]; omega) | (simp [ei, eb, es, ec]; done) | simp [ei, eb, es, ec]) | first | exact rfl | exact Iff.rfl | exact ⟨rfl, rfl⟩ | exact decide_eq_true_iff | (refine ⟨?_, ?_⟩ <;> first | exact rfl | (simp only [ei, eb, es, ec, List.map_append, List.flatMap_append, List.nil_append, List.append_nil, List.append_assoc]; done) | omega | (simp only [List.nil_append, List.length_append, List.length_cons, List.length_nil]; omega) | (simp [ei, eb, es, ec]; done)) | (constructor <;> first | exact rfl | (simp only [ei, eb, es, ec, List.map_append, List.flatMap_append, List.nil_append, List.append_nil, List.append_assoc]; done) | omega | (simp only [List.nil_append, List.length_append, List.length_cons, List.length_nil]; omega) | (simp [ei, eb, es, ec]; done)) | exact rfl | (simp only [ei, eb, es, ec, List.map_append, List.flatMap_append, List.nil_append, List.append_nil, List.append_assoc]; done) | omega | (simp only [List.nil_append, List.length_append, List.length_cons, List.length_nil]; omega) | (simp [ei, eb, es, ec]; done) | simp [ei, eb, es, ec])) ?_)
    first | exact trivial | exact rfl
  · refine if_st H (fun h16 H => ?_) (fun h16 H => ?_)
    · have hfin := fin_st H
      repeat (refine And.intro (Ob.mk (by first | (rw [← hfin] <;> first | exact rfl | exact Iff.rfl | exact ⟨rfl, rfl⟩ | exact decide_eq_true_iff | (refine ⟨?_, ?_⟩ <;> first | exact rfl | (simp only [ei, eb, es, ec, List.map_append, List.flatMap_append, List.nil_append, List.append_nil, List.append_assoc]; done) | omega | (simp only [List.nil_append, List.length_append, List.length_cons, List.length_nil]; omega) | (simp [ei, eb, es, ec]; done)) | (constructor <;> first | exact rfl | (simp only [ei, eb, es, ec, List.map_append, List.flatMap_append, List.nil_append, List.append_nil, List.append_assoc]; done) | omega | (simp only [List.nil_append, List.length_append, List.length_cons, List.length_nil]; omega) | (simp [ei, eb, es, ec]; done)) | exact rfl | (simp only [ei, eb, es, ec, List.map_append, List.flatMap_append, List.nil_append, List.append_nil, List.append_assoc]; done) | omega | (simp only [List.nil_append, List.length_append, List.length_cons, List.length_nil]; omega) | (simp [ei, eb, es, ec]; done) | simp [ei, eb, es, ec]) | first | exact rfl | exact Iff.rfl | exact ⟨rfl, rfl⟩ | exact decide_eq_true_iff | (refine ⟨?_, ?_⟩ <;> first | exact rfl | (simp only [ei, eb, es, ec, List.map_append, List.flatMap_append, List.nil_append, List.append_nil, List.append_assoc]; done) | omega | (simp only [List.nil_append, List.length_append, List.length_cons, List.length_nil]; omega) | (simp [ei, eb, es, ec]; done)) | (constructor <;> first | exact rfl | (simp only [ei, eb, es, ec, List.map_append, List.flatMap_append, List.nil_append, List.append_nil, List.append_assoc]; done) | omega | (simp only [List.nil_append, List.length_append, List.length_cons, List.length_nil]; omega) | (simp [ei, eb, es, ec]; done)) | exact rfl | (simp only [ei, eb, es, ec, List.map_append, List.flatMap_append, List.nil_append, List.append_nil, List.append_assoc]; done) | omega | (simp only [List.nil_append, List.length_append, List.length_cons, List.length_nil]; omega) | (simp [ei, eb, es, ec]; done) | simp [ei, eb, es, ec])) ?_)
      first | exact trivial | exact rfl
    · refine if_st H (fun h17 H => ?_) (fun h17 H => ?_)
      · refine ob_ck H fun h18 H => ?_
        have hfin := fin_st H
        repeat (refine And.intro (Ob.mk (by first | (rw [← hfin] <;> first | exact rfl | exact Iff.rfl | exact ⟨rfl, rfl⟩ | exact decide_eq_true_iff | (refine ⟨?_, ?_⟩ <;> first | exact rfl | (simp only [ei, eb, es, ec, List.map_append, List.flatMap_append, List.nil_append, List.append_nil, List.append_assoc]; done) | omega | (simp only [List.nil_append, List.length_append, List.length_cons, List.length_nil]; omega) | (simp [ei, eb, es, ec]; done)) | (constructor <;> first | exact rfl | (simp only [ei, eb, es, ec, List.map_append, List.flatMap_append, List.nil_append, List.append_nil, List.append_assoc]; done) | omega | (simp only [List.nil_append, List.length_append, List.length_cons, List.length_nil]; omega) | (simp [ei, eb, es, ec]; done)) | exact rfl | (simp only [ei, eb, es, ec, List.map_append, List.flatMap_append, List.nil_append, List.append_nil, List.append_assoc]; done) | omega | (simp only [List.nil_append, List.length_append, List.length_cons, List.length_nil]; omega) | (simp [ei, eb, es, ec]; done) | simp [ei, eb, es, ec]) | first | exact rfl | exact Iff.rfl | exact ⟨rfl, rfl⟩ | exact decide_eq_true_iff | (refine ⟨?_, ?_⟩ <;> first | exact rfl | (simp only [ei, eb, es, ec, List.map_append, List.flatMap_append, List.nil_append, List.append_nil, List.append_assoc]; done) | omega | (simp only [List.nil_append, List.length_append, List.length_cons, List.length_nil]; omega) | (simp [ei, eb, es, ec]; done)) | (constructor <;> first | exact rfl | (simp only [ei, eb, es, ec, List.map_append, List.flatMap_append, List.nil_append, List.append_nil, List.append_assoc]; done) | omega | (simp only [List.nil_append, List.length_append, List.length_cons, List.length_nil]; omega) | (simp [ei, eb, es, ec]; done)) | exact rfl | (simp only [ei, eb, es, ec, List.map_append, List.flatMap_append, List.nil_append, List.append_nil, List.append_assoc]; done) | omega | (simp only [List.nil_append, List.length_append, List.length_cons, List.length_nil]; omega) | (simp [ei, eb, es, ec]; done) | simp [ei, eb, es, ec])) ?_)
        first | exact trivial | exact rfl
      · refine if_st H (fun h19 H => ?_) (fun h19 H => ?_)
        · have hfin := fin_st H
          repeat (refine And.intro (Ob.mk (by first | (rw [← hfin] <;> first | exact rfl | exact Iff.rfl | exact ⟨rfl, rfl⟩ | exact decide_eq_true_iff | (refine ⟨?_, ?_⟩ <;> first | exact rfl | (simp only [ei, eb, es, ec, List.map_append, List.flatMap_append, List.nil_append, List.append_nil, List.append_assoc]; done) | omega | (simp only [List.nil_append, List.length_append, List.length_cons, List.length_nil]; omega) | (simp [ei, eb, es, ec]; done)) | (constructor <;> first | exact rfl | (simp only [ei, eb, es, ec, List.map_append, List.flatMap_append, List.nil_append, List.append_nil, List.append_assoc]; done) | omega | (simp only [List.nil_append, List.length_append, List.length_cons, List.length_nil]; omega) | (simp [ei, eb, es, ec]; done)) | exact rfl | (simp only [ei, eb, es, ec, List.map_append, List.flatMap_append, List.nil_append, List.append_nil, List.append_assoc]; done) | omega | (simp only [List.nil_append, List.length_append, List.length_cons, List.length_nil]; omega) | (simp [ei, eb, es, ec]; done) | simp [ei, eb, es, ec]) | first | exact rfl | exact Iff.rfl | exact ⟨rfl, rfl⟩ | exact decide_eq_true_iff | (refine ⟨?_, ?_⟩ <;> first | exact rfl | (simp only [ei, eb, es, ec, List.map_append, List.flatMap_append, List.nil_append, List.append_nil, List.append_assoc]; done) | omega | (simp only [List.nil_append, List.length_append, List.length_cons, List.length_nil]; omega) | (simp [ei, eb, es, ec]; done)) | (constructor <;> first | exact rfl | (simp only [ei, eb, es, ec, List.map_append, List.flatMap_append, List.nil_append, List.append_nil, List.append_assoc]; done) | omega | (simp only [List.nil_append, List.length_append, List.length_cons, List.length_nil]; omega) | (simp [ei, eb, es, ec]; done)) | exact rfl | (simp only [ei, eb, es, ec, List.map_append, List.flatMap_append, List.nil_append, List.append_nil, List.append_assoc]; done) | omega | (simp only [List.nil_append, List.length_append, List.length_cons, List.length_nil]; omega) | (simp [ei, eb, es, ec]; done) | simp [ei, eb, es, ec])) ?_)
          first | exact trivial | exact rfl
        · refine if_st H (fun h20 H => ?_) (fun h20 H => ?_)
          · have hfin := fin_st H
            repeat (refine And.intro (Ob.mk (by first | (rw [← hfin] <;> first | exact rfl | exact Iff.rfl | exact ⟨rfl, rfl⟩ | exact decide_eq_true_iff | (refine ⟨?_, ?_⟩ <;> first | exact rfl | (simp only [ei, eb, es, ec, List.map_append, List.flatMap_append, List.nil_append, List.append_nil, List.append_assoc]; done) | omega | (simp only [List.nil_append, List.length_append, List.length_cons, List.length_nil]; omega) | (simp [ei, eb, es, ec]; done)) | (constructor <;> first | exact rfl | (simp only [ei, eb, es, ec, List.map_append, List.flatMap_append, List.nil_append, List.append_nil, List.append_assoc]; done) | omega | (simp only [List.nil_append, List.length_append, List.length_cons, List.length_nil]; omega) | (simp [ei, eb, es, ec]; done)) | exact rfl | (simp only [ei, eb, es, ec, List.map_append, List.flatMap_append, List.nil_append, List.append_nil, List.append_assoc]; done) | omega | (simp only [List.nil_append, List.length_append, List.length_cons, List.length_nil]; omega) | (simp [ei, eb, es, ec]; done) | simp [ei, eb, es, ec]) | first | exact rfl | exact Iff.rfl | exact ⟨rfl, rfl⟩ | exact decide_eq_true_iff | (refine ⟨?_, ?_⟩ <;> first | exact rfl | (simp only [ei, eb, es, ec, List.map_append, List.flatMap_append, List.nil_append, List.append_nil, List.append_assoc]; done) | omega | (simp only [List.nil_append, List.length_append, List.length_cons, List.length_nil]; omega) | (simp [ei, eb, es, ec]; done)) | (constructor <;> first | exact rfl | (simp only [ei, eb, es, ec, List.map_append, List.flatMap_append, List.nil_append, List.append_nil, List.append_assoc]; done) | omega | (simp only [List.nil_append, List.length_append, List.length_cons, List.length_nil]; omega) | (simp [ei, eb, es, ec]; done)) | exact rfl | (simp only [ei, eb, es, ec, List.map_append, List.flatMap_append, List.nil_append, List.append_nil, List.append_assoc]; done) | omega | (simp only [List.nil_append, List.length_append, List.length_cons, List.length_nil]; omega) | (simp [ei, eb, es, ec]; done) | simp [ei, eb, es, ec])) ?_)
            first | exact trivial | exact rfl
          · refine if_st H (fun h21 H => ?_) (fun h21 H => ?_)
            · refine ob_ck H fun h22 H => ?_
              have hfin := fin_st H
              repeat (refine And.intro (Ob.mk (by first | (rw [← hfin] <;> first | exact rfl | exact Iff.rfl | exact ⟨rfl, rfl⟩ | exact decide_eq_true_iff | (refine ⟨?_, ?_⟩ <;> first | exact rfl | (simp only [ei, eb, es, ec, List.map_append, List.flatMap_append, List.nil_append, List.append_nil, List.append_assoc]; done) | omega | (simp only [List.nil_append, List.length_append, List.length_cons, List.length_nil]; omega) | (simp [ei, eb, es, ec]; done)) | (constructor <;> first | exact rfl | (simp only [ei, eb, es, ec, List.map_append, List.flatMap_append, List.nil_append, List.append_nil, List.append_assoc]; done) | omega | (simp only [List.nil_append, List.length_append, List.length_cons, List.length_nil]; omega) | (simp [ei, eb, es, ec]; done)) | exact rfl | (simp only [ei, eb, es, ec, List.map_append, List.flatMap_append, List.nil_append, List.append_nil, List.append_assoc]; done) | omega | (simp only [List.nil_append, List.length_append, List.length_cons, List.length_nil]; omega) | (simp [ei, eb, es, ec]; done) | simp [ei, eb, es, ec]) | first | exact rfl | exact Iff.rfl | exact ⟨rfl, rfl⟩ | exact decide_eq_true_iff | (refine ⟨?_, ?_⟩ <;> first | exact rfl | (simp only [ei, eb, es, ec, List.map_append, List.flatMap_append, List.nil_append, List.append_nil, List.append_assoc]; done) | omega | (simp only [List.nil_append, List.length_append, List.length_cons, List.length_nil]; omega) | (simp [ei, eb, es, ec]; done)) | (constructor <;> first | exact rfl | (simp only [ei, eb, es, ec, List.map_append, List.flatMap_append, List.nil_append, List.append_nil, List.append_assoc]; done) | omega | (simp only [List.nil_append, List.length_append, List.length_cons, List.length_nil]; omega) | (simp [ei, eb, es, ec]; done)) | exact rfl | (simp only [ei, eb, es, ec, List.map_append, List.flatMap_append, List.nil_append, List.append_nil, List.append_assoc]; done) | omega | (simp only [List.nil_append, List.length_append, List.length_cons, List.length_nil]; omega) | (simp [ei, eb, es, ec]; done) | simp [ei, eb, es, ec])) ?_)
              first | exact trivial | exact rfl
            · refine if_st H (fun h23 H => ?_) (fun h23 H => ?_)
              · have hfin := fin_st H
                repeat (refine And.intro (Ob.mk (by first | (rw [← hfin] <;> first | exact rfl | exact Iff.rfl | exact ⟨rfl, rfl⟩ | exact decide_eq_true_iff | (refine ⟨?_, ?_⟩ <;> first | exact rfl | (simp only [ei, eb, es, ec, List.map_append, List.flatMap_append, List.nil_append, List.append_nil, List.append_assoc]; done) | omega | (simp only [List.nil_append, List.length_append, List.length_cons, List.length_nil]; omega) | (simp [ei, eb, es, ec]; done)) | (constructor <;> first | exact rfl | (simp only [ei, eb, es, ec, List.map_append, List.flatMap_append, List.nil_append, List.append_nil, List.append_assoc]; done) | omega | (simp only [List.nil_append, List.length_append, List.length_cons, List.length_nil]; omega) | (simp [ei, eb, es, ec]; done)) | exact rfl | (simp only [ei, eb, es, ec, List.map_append, List.flatMap_append, List.nil_append, List.append_nil, List.append_assoc]; done) | omega | (simp only [List.nil_append, List.length_append, List.length_cons, List.length_nil]; omega) | (simp [ei, eb, es, ec]; done) | simp [ei, eb, es, ec]) | first | exact rfl | exact Iff.rfl | exact ⟨rfl, rfl⟩ | exact decide_eq_true_iff | (refine ⟨?_, ?_⟩ <;> first | exact rfl | (simp only [ei, eb, es, ec, List.map_append, List.flatMap_append, List.nil_append, List.append_nil, List.append_assoc]; done) | omega | (simp only [List.nil_append, List.length_append, List.length_cons, List.length_nil]; omega) | (simp [ei, eb, es, ec]; done)) | (constructor <;> first | exact rfl | (simp only [ei, eb, es, ec, List.map_append, List.flatMap_append, List.nil_append, List.append_nil, List.append_assoc]; done) | omega | (simp only [List.nil_append, List.length_append, List.length_cons, List.length_nil]; omega) | (simp [ei, eb, es, ec]; done)) | exact rfl | (simp only [ei, eb, es, ec, List.map_append, List.flatMap_append, List.nil_append, List.append_nil, List.append_assoc]; done) | omega | (simp only [List.nil_append, List.length_append, List.length_cons, List.length_nil]; omega) | (simp [ei, eb, es, ec]; done) | simp [ei, eb, es, ec])) ?_)
                first | exact trivial | exact rfl
              · refine if_st H (fun h24 H => ?_) (fun h24 H => ?_)
                · refine ob_ck H fun h25 H => ?_
                  have hfin := fin_st H
                  repeat (refine And.intro (Ob.mk (by first | (rw [← hfin] <;> first | exact rfl | exact Iff.rfl | exact ⟨rfl, rfl⟩ | exact decide_eq_true_iff | (refine ⟨?_, ?_⟩ <;> first | exact rfl | (simp only [ei, eb, es, ec, List.map_append, List.flatMap_append, List.nil_append, List.append_nil, List.append_assoc]; done) | omega | (simp only [List.nil_append, List.length_append, List.length_cons, List.length_nil]; omega) | (simp [ei, eb, es, ec]; done)) | (constructor <;> first | exact rfl | (simp only [ei, eb, es, ec, List.map_append, List.flatMap_append, List.nil_append, List.append_nil, List.append_assoc]; done) | omega | (simp only [List.nil_append, List.length_append, List.length_cons, List.length_nil]; omega) | (simp [ei, eb, es, ec]; done)) | exact rfl | (simp only [ei, eb, es, ec, List.map_append, List.flatMap_append, List.nil_append, List.append_nil, List.append_assoc]; done) | omega | (simp only [List.nil_append, List.length_append, List.length_cons, List.length_nil]; omega) | (simp [ei, eb, es, ec]; done) | simp [ei, eb, es, ec]) | first | exact rfl | exact Iff.rfl | exact ⟨rfl, rfl⟩ | exact decide_eq_true_iff | (refine ⟨?_, ?_⟩ <;> first | exact rfl | (simp only [ei, eb, es, ec, List.map_append, List.flatMap_append, List.nil_append, List.append_nil, List.append_assoc]; done) | omega | (simp only [List.nil_append, List.length_append, List.length_cons, List.length_nil]; omega) | (simp [ei, eb, es, ec]; done)) | (constructor <;> first | exact rfl | (simp only [ei, eb, es, ec, List.map_append, List.flatMap_append, List.nil_append, List.append_nil, List.append_assoc]; done) | omega | (simp only [List.nil_append, List.length_append, List.length_cons, List.length_nil]; omega) | (simp [ei, eb, es, ec]; done)) | exact rfl | (simp only [ei, eb, es, ec, List.map_append, List.flatMap_append, List.nil_append, List.append_nil, List.append_assoc]; done) | omega | (simp only [List.nil_append, List.length_append, List.length_cons, List.length_nil]; omega) | (simp [ei, eb, es, ec]; done) | simp [ei, eb, es, ec])) ?_)
                  first | exact trivial | exact rfl
                · refine if_st H (fun h26 H => ?_) (fun h26 H => ?_)
                  · have hfin := fin_st H
                    repeat (refine And.intro (Ob.mk (by first | (rw [← hfin] <;> first | exact rfl | exact Iff.rfl | exact ⟨rfl, rfl⟩ | exact decide_eq_true_iff | (refine ⟨?_, ?_⟩ <;> first | exact rfl | (simp only [ei, eb, es, ec, List.map_append, List.flatMap_append, List.nil_append, List.append_nil, List.append_assoc]; done) | omega | (simp only [List.nil_append, List.length_append, List.length_cons, List.length_nil]; omega) | (simp [ei, eb, es, ec]; done)) | (constructor <;> first | exact rfl | (simp only [ei, eb, es, ec, List.map_append, List.flatMap_append, List.nil_append, List.append_nil, List.append_assoc]; done) | omega | (simp only [List.nil_append, List.length_append, List.length_cons, List.length_nil]; omega) | (simp [ei, eb, es, ec]; done)) | exact rfl | (simp only [ei, eb, es, ec, List.map_append, List.flatMap_append, List.nil_append, List.append_nil, List.append_assoc]; done) | omega | (simp only [List.nil_append, List.length_append, List.length_cons, List.length_nil]; omega) | (simp [ei, eb, es, ec]; done) | simp [ei, eb, es, ec]) | first | exact rfl | exact Iff.rfl | exact ⟨rfl, rfl⟩ | exact decide_eq_true_iff | (refine ⟨?_, ?_⟩ <;> first | exact rfl | (simp only [ei, eb, es, ec, List.map_append, List.flatMap_append, List.nil_append, List.append_nil, List.append_assoc]; done) | omega | (simp only [List.nil_append, List.length_append, List.length_cons, List.length_nil]; omega) | (simp [ei, eb, es, ec]; done)) | (constructor <;> first | exact rfl | (simp only [ei, eb, es, ec, List.map_append, List.flatMap_append, List.nil_append, List.append_nil, List.append_assoc]; done) | omega | (simp only [List.nil_append, List.length_append, List.length_cons, List.length_nil]; omega) | (simp [ei, eb, es, ec]; done)) | exact rfl | (simp only [ei, eb, es, ec, List.map_append, List.flatMap_append, List.nil_append, List.append_nil, List.append_assoc]; done) | omega | (simp only [List.nil_append, List.length_append, List.length_cons, List.length_nil]; omega) | (simp [ei, eb, es, ec]; done) | simp [ei, eb, es, ec])) ?_)
                    first | exact trivial | exact rfl
                  · have hfin := fin_st H
                    repeat (refine And.intro (Ob.mk (by first | (rw [← hfin] <;> first | exact rfl | exact Iff.rfl | exact ⟨rfl, rfl⟩ | exact decide_eq_true_iff | (refine ⟨?_, ?_⟩ <;> first | exact rfl | (simp only [ei, eb, es, ec, List.map_append, List.flatMap_append, List.nil_append, List.append_nil, List.append_assoc]; done) | omega | (simp only [List.nil_append, List.length_append, List.length_cons, List.length_nil]; omega) | (simp [ei, eb, es, ec]; done)) | (constructor <;> first | exact rfl | (simp only [ei, eb, es, ec, List.map_append, List.flatMap_append, List.nil_append, List.append_nil, List.append_assoc]; done) | omega | (simp only [List.nil_append, List.length_append, List.length_cons, List.length_nil]; omega) | (simp [ei, eb, es, ec]; done)) | exact rfl | (simp only [ei, eb, es, ec, List.map_append, List.flatMap_append, List.nil_append, List.append_nil, List.append_assoc]; done) | omega | (simp only [List.nil_append, List.length_append, List.length_cons, List.length_nil]; omega) | (simp [ei, eb, es, ec]; done) | simp [ei, eb, es, ec]) | first | exact rfl | exact Iff.rfl | exact ⟨rfl, rfl⟩ | exact decide_eq_true_iff | (refine ⟨?_, ?_⟩ <;> first | exact rfl | (simp only [ei, eb, es, ec, List.map_append, List.flatMap_append, List.nil_append, List.append_nil, List.append_assoc]; done) | omega | (simp only [List.nil_append, List.length_append, List.length_cons, List.length_nil]; omega) | (simp [ei, eb, es, ec]; done)) | (constructor <;> first | exact rfl | (simp only [ei, eb, es, ec, List.map_append, List.flatMap_append, List.nil_append, List.append_nil, List.append_assoc]; done) | omega | (simp only [List.nil_append, List.length_append, List.length_cons, List.length_nil]; omega) | (simp [ei, eb, es, ec]; done)) | exact rfl | (simp only [ei, eb, es, ec, List.map_append, List.flatMap_append, List.nil_append, List.append_nil, List.append_assoc]; done) | omega | (simp only [List.nil_append, List.length_append, List.length_cons, List.length_nil]; omega) | (simp [ei, eb, es, ec]; done) | simp [ei, eb, es, ec])) ?_)
                    first | exact trivial | exact rfl
noncomputable def e57 (n : Nat) (a0 : Int) : Option ((Int × Int × Int × Int)) :=
  if a0 < 128 then
    (
      ck (inR .i32 a0) <|
      some (1, 0, 0, a0)
    )
  else
    (
      if a0 < 194 then
        some (0, 0, 0, 0)
      else
        (
          if a0 < 224 then
            (
              ck (inR .i32 (bits .and .u8 a0 31)) <|
              some (2, 128, 191, bits .and .u8 a0 31)
            )
          else
            (
              if a0 = 224 then
                some (3, 160, 191, 0)
              else
                (
                  if a0 = 237 then
                    some (3, 128, 159, 13)
                  else
                    (
                      if a0 < 240 then
                        (
                          ck (inR .i32 (bits .and .u8 a0 15)) <|
                          some (3, 128, 191, bits .and .u8 a0 15)
                        )
                      else
                        (
                          if a0 = 240 then
                            some (4, 144, 191, 0)
                          else
                            (
                              if a0 < 244 then
                                (
                                  ck (inR .i32 (bits .and .u8 a0 7)) <|
                                  some (4, 128, 191, bits .and .u8 a0 7)
                                )
                              else
                                (
                                  if a0 = 244 then
                                    some (4, 128, 143, 4)
                                  else
                                    some (0, 0, 0, 0)
                                )
                            )
                        )
                    )
                )
            )
        )
    )
theorem e57_le (n : Nat) (a0 : Int) : Le (e57 n a0) (g57 a0) := by
  unfold e57 g57
  repeat' first | refine le_bind ?_ (fun _ => ?_) | refine le_ck ?_ | refine le_if ?_ ?_ | refine le_sm (fun _ => ?_) (fun _ => ?_) | refine le_jn (fun _ _ _ => ?_) (fun _ => ?_) | refine le_loop (fun _ => ?_) | with_reducible exact le_refl | apply_assumption

/-- placard/runes.isRune -/
noncomputable def g61 (a0 : Int) : Option (Bool) :=
  if 0 ≤ a0 then
    (
      if a0 ≤ 1114111 then
        (
          if a0 < 55296 then
            some true
          else
            some (decide (57343 < a0))
        )
      else
        some false
    )
  else
    some false
noncomputable def k61 : Eng.CS := { f := 61, calm := true, more := 0, ι := Int × Bool, ok := fun i => g61 i.1 = some i.2, rds := fun _ => [], args := fun i => [.w (.v (.int .i32 (i.1)))], res := fun i => bS i.2 }
set_option maxRecDepth 8000 in
set_option maxHeartbeats 4000000 in
theorem k61_ok : CalmOk Try.prog k61 := by
  refine R.calmspec Try.func61 nm61 rfl ?_
  rintro ⟨a0, r⟩ hok q _ args hargs
  match args, hargs with
  | [_], hargs =>
  obtain ⟨rfl, _⟩ := hargs
  refine ⟨envC [] false [], 6, envC_ok (css_nil), rfl, (by intro x hx; simp only [List.mem_cons, List.not_mem_nil, or_false] at hx; rcases hx with rfl <;> rfl), ?_⟩
  have H : Gives (g61 a0) (fun a => a = r) := ⟨r, hok, rfl⟩
  unfold g61 at H
  clear hok
  refine if_st H (fun h27 H => ?_) (fun h27 H => ?_)
  · refine if_st H (fun h28 H => ?_) (fun h28 H => ?_)
    · refine if_st H (fun h29 H => ?_) (fun h29 H => ?_)
      · have hfin := fin_st H
        repeat (refine And.intro (Ob.mk (by first | (rw [← hfin] <;> first | exact rfl | exact Iff.rfl | exact ⟨rfl, rfl⟩ | exact decide_eq_true_iff | (refine ⟨?_, ?_⟩ <;> first | exact rfl | (simp only [ei, eb, es, ec, List.map_append, List.flatMap_append, List.nil_append, List.append_nil, List.append_assoc]; done) | omega | (simp only [List.nil_append, List.length_append, List.length_cons, List.length_nil]; omega) | (simp [ei, eb, es, ec]; done)) | (constructor <;> first | exact rfl | (simp only [ei, eb, es, ec, List.map_append, List.flatMap_append, List.nil_append, List.append_nil, List.append_assoc]; done) | omega | (simp only [List.nil_append, List.length_append, List.length_cons, List.length_nil]; omega) | (simp [ei, eb, es, ec]; done)) | exact rfl | (simp only [ei, eb, es, ec, List.map_append, List.flatMap_append, List.nil_append, List.append_nil, List.append_assoc]; done) | omega | (simp only [List.nil_append, List.length_append, List.length_cons, List.length_nil]; omega) | (simp [ei, eb, es, ec]; done) | simp [ei, eb, es, ec]) | first | exact rfl | exact Iff.rfl | exact ⟨rfl, rfl⟩ | exact decide_eq_true_iff | (refine ⟨?_, ?_⟩ <;> first | exact rfl | (simp only [ei, eb, es, ec, List.map_append, List.flatMap_append, List.nil_append, List.append_nil, List.append_assoc]; done) | omega | (simp only [List.nil_append, List.length_append, List.length_cons, List.length_nil]; omega) | (simp [ei, eb, es, ec]; done)) | (constructor <;> first | exact rfl | (simp only [ei, eb, es, ec, List.map_append, List.flatMap_append, List.nil_append, List.append_nil, List.append_assoc]; done) | omega | (simp only [List.nil_append, List.length_append, List.length_cons, List.length_nil]; omega) | (simp [ei, eb, es, ec]; done)) | exact rfl | (simp only [ei, eb, es, ec, List.map_append, List.flatMap_append, List.nil_append, List.append_nil, List.append_assoc]; done) | omega | (simp only [List.nil_append, List.length_append, List.length_cons, List.length_nil]; omega) | (simp [ei, eb, es, ec]; done) | simp [ei, eb, es, ec])) ?_)
        first | exact trivial | exact rfl
      · have hfin := fin_st H
        repeat (refine And.intro (Ob.mk (by first | (rw [← hfin] <;> first | exact rfl | exact Iff.rfl | exact ⟨rfl, rfl⟩ | exact decide_eq_true_iff | (refine ⟨?_, ?_⟩ <;> first | exact rfl | (simp only [ei, eb, es, ec, List.map_append, List.flatMap_append, List.nil_append, List.append_nil, List.append_assoc]; done) | omega | (simp only [List.nil_append, List.length_append, List.length_cons, List.length_nil]; omega) | (simp [ei, eb, es, ec]; done)) | (constructor <;> first | exact rfl | (simp only [ei, eb, es, ec, List.map_append, List.flatMap_append, List.nil_append, List.append_nil, List.append_assoc]; done) | omega | (simp only [List.nil_append, List.length_append, List.length_cons, List.length_nil]; omega) | (simp [ei, eb, es, ec]; done)) | exact rfl | (simp only [ei, eb, es, ec, List.map_append, List.flatMap_append, List.nil_append, List.append_nil, List.append_assoc]; done) | omega | (simp only [List.nil_append, List.length_append, List.length_cons, List.length_nil]; omega) | (simp [ei, eb, es, ec]; done) | simp [ei, eb, es, ec]) | first | exact rfl | exact Iff.rfl | exact ⟨rfl, rfl⟩ | exact decide_eq_true_iff | (refine ⟨?_, ?_⟩ <;> first | exact rfl | (simp only [ei, eb, es, ec, List.map_append, List.flatMap_append, List.nil_append, List.append_nil, List.append_assoc]; done) | omega | (simp only [List.nil_append, List.length_append, List.length_cons, List.length_nil]; omega) | (simp [ei, eb, es, ec]; done)) | (constructor <;> first | exact rfl | (simp only [ei, eb, es, ec, List.map_append, List.flatMap_append, List.nil_append, List.append_nil, List.append_assoc]; done) | omega | (simp only [List.nil_append, List.length_append, List.length_cons, List.length_nil]; omega) | (simp [ei, eb, es, ec]; done)) | exact rfl | (simp only [ei, eb, es, ec, List.map_append, List.flatMap_append, List.nil_append, List.append_nil, List.append_assoc]; done) | omega | (simp only [List.nil_append, List.length_append, List.length_cons, List.length_nil]; omega) | (simp [ei, eb, es, ec]; done) | simp [ei, eb, es, ec])) ?_)
        first | exact trivial | exact rfl
    · have hfin := fin_st H
      repeat (refine And.intro (Ob.mk (by first | (rw [← hfin] <;> first | exact rfl | exact Iff.rfl | exact ⟨rfl, rfl⟩ | exact decide_eq_true_iff | (refine ⟨?_, ?_⟩ <;> first | exact rfl | (simp only [ei, eb, es, ec, List.map_append, List.flatMap_append, List.nil_append, List.append_nil, List.append_assoc]; done) | omega | (simp only [List.nil_append, List.length_append, List.length_cons, List.length_nil]; omega) | (simp [ei, eb, es, ec]; done)) | (constructor <;> first | exact rfl | (simp only [ei, eb, es, ec, List.map_append, List.flatMap_append, List.nil_append, List.append_nil, List.append_assoc]; done) | omega | (simp only [List.nil_append, List.length_append, List.length_cons, List.length_nil]; omega) | (simp [ei, eb, es, ec]; done)) | exact rfl | (simp only [ei, eb, es, ec, List.map_append, List.flatMap_append, List.nil_append, List.append_nil, List.append_assoc]; done) | omega | (simp only [List.nil_append, List.length_append, List.length_cons, List.length_nil]; omega) | (simp [ei, eb, es, ec]; done) | simp [ei, eb, es, ec]) | first | exact rfl | exact Iff.rfl | exact ⟨rfl, rfl⟩ | exact decide_eq_true_iff | (refine ⟨?_, ?_⟩ <;> first | exact rfl | (simp only [ei, eb, es, ec, List.map_append, List.flatMap_append, List.nil_append, List.append_nil, List.append_assoc]; done) | omega | (simp only [List.nil_append, List.length_append, List.length_cons, List.length_nil]; omega) | (simp [ei, eb, es, ec]; done)) | (constructor <;> first | exact rfl | (simp only [ei, eb, es, ec, List.map_append, List.flatMap_append, List.nil_append, List.append_nil, List.append_assoc]; done) | omega | (simp only [List.nil_append, List.length_append, List.length_cons, List.length_nil]; omega) | (simp [ei, eb, es, ec]; done)) | exact rfl | (simp only [ei, eb, es, ec, List.map_append, List.flatMap_append, List.nil_append, List.append_nil, List.append_assoc]; done) | omega | (simp only [List.nil_append, List.length_append, List.length_cons, List.length_nil]; omega) | (simp [ei, eb, es, ec]; done) | simp [ei, eb, es, ec])) ?_)
      first | exact trivial | exact rfl
  · have hfin := fin_st H
    repeat (refine And.intro (Ob.mk (by first | (rw [← hfin] <;> first | exact rfl | exact Iff.rfl | exact ⟨rfl, rfl⟩ | exact decide_eq_true_iff | (refine ⟨?_, ?_⟩ <;> first | exact rfl | (simp only [ei, eb, es, ec, List.map_append, List.flatMap_append, List.nil_append, List.append_nil, List.append_assoc]; done) | omega | (simp only [List.nil_append, List.length_append, List.length_cons, List.length_nil]; omega) | (simp [ei, eb, es, ec]; done)) | (constructor <;> first | exact rfl | (simp only [ei, eb, es, ec, List.map_append, List.flatMap_append, List.nil_append, List.append_nil, List.append_assoc]; done) | omega | (simp only [List.nil_append, List.length_append, List.length_cons, List.length_nil]; omega) | (simp [ei, eb, es, ec]; done)) | exact rfl | (simp only [ei, eb, es, ec, List.map_append, List.flatMap_append, List.nil_append, List.append_nil, List.append_assoc]; done) | omega | (simp only [List.nil_append, List.length_append, List.length_cons, List.length_nil]; omega) | (simp [ei, eb, es, ec]; done) | simp [ei, eb, es, ec]) | first | exact rfl | exact Iff.rfl | exact ⟨rfl, rfl⟩ | exact decide_eq_true_iff | (refine ⟨?_, ?_⟩ <;> first | exact rfl | (simp only [ei, eb, es, ec, List.map_append, List.flatMap_append, List.nil_append, List.append_nil, List.append_assoc]; done) | omega | (simp only [List.nil_append, List.length_append, List.length_cons, List.length_nil]; omega) | (simp [ei, eb, es, ec]; done)) | (constructor <;> first | exact rfl | (simp only [ei, eb, es, ec, List.map_append, List.flatMap_append, List.nil_append, List.append_nil, List.append_assoc]; done) | omega | (simp only [List.nil_append, List.length_append, List.length_cons, List.length_nil]; omega) | (simp [ei, eb, es, ec]; done)) | exact rfl | (simp only [ei, eb, es, ec, List.map_append, List.flatMap_append, List.nil_append, List.append_nil, List.append_assoc]; done) | omega | (simp only [List.nil_append, List.length_append, List.length_cons, List.length_nil]; omega) | (simp [ei, eb, es, ec]; done) | simp [ei, eb, es, ec])) ?_)
    first | exact trivial | exact rfl
noncomputable def e61 (n : Nat) (a0 : Int) : Option (Bool) :=
  if 0 ≤ a0 then
    (
      if a0 ≤ 1114111 then
        (
          if a0 < 55296 then
            some true
          else
            some (decide (57343 < a0))
        )
      else
        some false
    )
  else
    some false
theorem e61_le (n : Nat) (a0 : Int) : Le (e61 n a0) (g61 a0) := by
  unfold e61 g61
  repeat' first | refine le_bind ?_ (fun _ => ?_) | refine le_ck ?_ | refine le_if ?_ ?_ | refine le_sm (fun _ => ?_) (fun _ => ?_) | refine le_jn (fun _ _ _ => ?_) (fun _ => ?_) | refine le_loop (fun _ => ?_) | with_reducible exact le_refl | apply_assumption

/-- placard/runes.six -/
noncomputable def g62 (a0 : Int) (a1 : Int) : Option (Int) :=
  ck (0 ≤ a1 ∧ a1 ≤ ((IntKind.bits .i32 : Nat) : Int)) <|
  some (bits .or .u8 128 (bits .and .u8 (IntKind.wrap .u8 (a0 / 2 ^ a1.toNat)) 63))
noncomputable def k62 : Eng.CS := { f := 62, calm := true, more := 0, ι := Int × Int × Int, ok := fun i => g62 i.1 i.2.1 = some i.2.2, rds := fun _ => [], args := fun i => [.w (.v (.int .i32 (i.1))), .w (.v (.int .u64 (i.2.1)))], res := fun i => .v (.int .u8 (i.2.2)) }
set_option maxRecDepth 8000 in
set_option maxHeartbeats 4000000 in
theorem k62_ok : CalmOk Try.prog k62 := by
  refine R.calmspec Try.func62 nm62 rfl ?_
  rintro ⟨a0, a1, r⟩ hok q _ args hargs
  match args, hargs with
  | [_, _], hargs =>
  obtain ⟨rfl, rfl, _⟩ := hargs
  refine ⟨envC [] false [], 6, envC_ok (css_nil), rfl, (by intro x hx; simp only [List.mem_cons, List.not_mem_nil, or_false] at hx; rcases hx with rfl | rfl <;> rfl), ?_⟩
  have H : Gives (g62 a0 a1) (fun a => a = r) := ⟨r, hok, rfl⟩
  unfold g62 at H
  clear hok
  refine ob_ck H fun h30 H => ?_
  have hfin := fin_st H
  repeat (refine And.intro (Ob.mk (by first | (rw [← hfin] <;> first | exact rfl | exact Iff.rfl | exact ⟨rfl, rfl⟩ | exact decide_eq_true_iff | (refine ⟨?_, ?_⟩ <;> first | exact rfl | (simp only [ei, eb, es, ec, List.map_append, List.flatMap_append, List.nil_append, List.append_nil, List.append_assoc]; done) | omega | (simp only [List.nil_append, List.length_append, List.length_cons, List.length_nil]; omega) | (simp [ei, eb, es, ec]; done)) | (constructor <;> first | exact rfl | (simp only [ei, eb, es, ec, List.map_append, List.flatMap_append, List.nil_append, List.append_nil, List.append_assoc]; done) | omega | (simp only [List.nil_append, List.length_append, List.length_cons, List.length_nil]; omega) | (simp [ei, eb, es, ec]; done)) | exact rfl | (simp only [ei, eb, es, ec, List.map_append, List.flatMap_append, List.nil_append, List.append_nil, List.append_assoc]; done) | omega | (simp only [List.nil_append, List.length_append, List.length_cons, List.length_nil]; omega) | (simp [ei, eb, es, ec]; done) | simp [ei, eb, es, ec]) | first | exact rfl | exact Iff.rfl | exact ⟨rfl, rfl⟩ | exact decide_eq_true_iff | (refine ⟨?_, ?_⟩ <;> first | exact rfl | (simp only [ei, eb, es, ec, List.map_append, List.flatMap_append, List.nil_append, List.append_nil, List.append_assoc]; done) | omega | (simp only [List.nil_append, List.length_append, List.length_cons, List.length_nil]; omega) | (simp [ei, eb, es, ec]; done)) | (constructor <;> first | exact rfl | (simp only [ei, eb, es, ec, List.map_append, List.flatMap_append, List.nil_append, List.append_nil, List.append_assoc]; done) | omega | (simp only [List.nil_append, List.length_append, List.length_cons, List.length_nil]; omega) | (simp [ei, eb, es, ec]; done)) | exact rfl | (simp only [ei, eb, es, ec, List.map_append, List.flatMap_append, List.nil_append, List.append_nil, List.append_assoc]; done) | omega | (simp only [List.nil_append, List.length_append, List.length_cons, List.length_nil]; omega) | (simp [ei, eb, es, ec]; done) | simp [ei, eb, es, ec])) ?_)
  first | exact trivial | exact rfl
noncomputable def e62 (n : Nat) (a0 : Int) (a1 : Int) : Option (Int) :=
  ck (0 ≤ a1 ∧ a1 ≤ ((IntKind.bits .i32 : Nat) : Int)) <|
  some (bits .or .u8 128 (bits .and .u8 (IntKind.wrap .u8 (a0 / 2 ^ a1.toNat)) 63))
theorem e62_le (n : Nat) (a0 : Int) (a1 : Int) : Le (e62 n a0 a1) (g62 a0 a1) := by
  unfold e62 g62
  repeat' first | refine le_bind ?_ (fun _ => ?_) | refine le_ck ?_ | refine le_if ?_ ?_ | refine le_sm (fun _ => ?_) (fun _ => ?_) | refine le_jn (fun _ _ _ => ?_) (fun _ => ?_) | refine le_loop (fun _ => ?_) | with_reducible exact le_refl | apply_assumption

/-- placard/runes.Next -/
noncomputable def g15 (a0 : List Int) : Option (Int × Int × Bool) :=
  if ((a0.length : Nat) : Int) = 0 then
    some (0, 0, true)
  else
    (
      ck (0 ≤ (0 : Int) ∧ 0 < ((a0.length : Nat) : Int)) <|
      (g57 (a0.getD (0 : Int).toNat 0)).bind fun v34 =>
      if v34.1 = 0 then
        some (65533, 1, false)
      else
        (
          jn (α := _) (β := Int) (fun k107 =>
              (loopO (σ := Int × Int) (ρ := (Int × Int × Bool) ⊕ (Int)) (fun s110 =>
                  if s110.2 < v34.1 then
                    (
                      if ((a0.length : Nat) : Int) ≤ s110.2 then
                        some (.out (.inl ((0, 0, true))))
                      else
                        (
                          jn (α := _) (β := Int × Int) (fun k143 =>
                              if s110.2 = 1 then
                                k143 (v34.2.1, v34.2.2.1)
                              else
                                k143 (128, 191)
                          ) (fun v142 =>
                            ck (0 ≤ s110.2 ∧ s110.2 < ((a0.length : Nat) : Int)) <|
                            if (a0.getD s110.2.toNat 0) < v142.1 then
                              some (.out (.inl ((65533, 1, false))))
                            else
                              (
                                ck (0 ≤ s110.2 ∧ s110.2 < ((a0.length : Nat) : Int)) <|
                                if v142.2 < (a0.getD s110.2.toNat 0) then
                                  some (.out (.inl ((65533, 1, false))))
                                else
                                  (
                                    ck (0 ≤ s110.2 ∧ s110.2 < ((a0.length : Nat) : Int)) <|
                                    ck (inR .i32 (bits .and .u8 (a0.getD s110.2.toNat 0) 63)) <|
                                    ck (inR .i64 (s110.2 + 1)) <|
                                    some (.go (bits .or .i32 (IntKind.wrap .i32 (s110.1 * 2 ^ (6 : Int).toNat)) (bits .and .u8 (a0.getD s110.2.toNat 0) 63), s110.2 + 1))
                                  )
                              )
                          )
                        )
                    )
                  else
                    some (.out (.inr (s110.1)))
                ) (v34.2.2.2, 1)).bind fun o138 =>
              sm o138 (fun o152 =>
                  some (o152.1, o152.2.1, o152.2.2)
                ) (fun o153 =>
                  k107 o153
                )
          ) (fun v106 =>
            some (v106, v34.1, false)
          )
        )
    )
noncomputable def k15 : Eng.CS := { f := 15, calm := true, more := 0, ι := (List Int) × (Int × Int × Bool), ok := fun i => g15 i.1 = some i.2, rds := fun _ => [], args := fun i => [.sl 1 i.1.length (ei .u8 i.1)], res := fun i => .tup [.v (.int .i32 (i.2.1)), .v (.int .i64 (i.2.2.1)), bS i.2.2.2] }
set_option maxRecDepth 8000 in
set_option maxHeartbeats 4000000 in
theorem k15_ok : CalmOk Try.prog k15 := by
  refine R.calmspec Try.func15 nm15 rfl ?_
  rintro ⟨a0, r⟩ hok q _ args hargs
  match args, hargs with
  | [_], hargs =>
  obtain ⟨⟨A0, cp0, rfl, hc0, _, hR0⟩, _⟩ := hargs
  refine ⟨envC [k57] false [(15, 15), (15, 18)], 6, envC_ok (css_cons ⟨fun _ => k57_ok, fun h => (by cases h)⟩ (css_nil)), rfl, (by intro x hx; simp only [List.mem_cons, List.not_mem_nil, or_false] at hx; rcases hx with rfl <;> rfl), ?_⟩
  have H : Gives (g15 a0) (fun a => a = r) := ⟨r, hok, rfl⟩
  unfold g15 at H
  clear hok
  refine if_st H (fun h32 H => ?_) (fun h32 H => ?_)
  · have hfin := fin_st H
    repeat (refine And.intro (Ob.mk (by first | (rw [← hfin] <;> first | exact rfl | exact Iff.rfl | exact ⟨rfl, rfl⟩ | exact decide_eq_true_iff | (refine ⟨?_, ?_⟩ <;> first | exact rfl | (simp only [ei, eb, es, ec, List.map_append, List.flatMap_append, List.nil_append, List.append_nil, List.append_assoc]; done) | omega | (simp only [List.nil_append, List.length_append, List.length_cons, List.length_nil]; omega) | (simp [ei, eb, es, ec]; done)) | (constructor <;> first | exact rfl | (simp only [ei, eb, es, ec, List.map_append, List.flatMap_append, List.nil_append, List.append_nil, List.append_assoc]; done) | omega | (simp only [List.nil_append, List.length_append, List.length_cons, List.length_nil]; omega) | (simp [ei, eb, es, ec]; done)) | exact rfl | (simp only [ei, eb, es, ec, List.map_append, List.flatMap_append, List.nil_append, List.append_nil, List.append_assoc]; done) | omega | (simp only [List.nil_append, List.length_append, List.length_cons, List.length_nil]; omega) | (simp [ei, eb, es, ec]; done) | simp [ei, eb, es, ec]) | first | exact rfl | exact Iff.rfl | exact ⟨rfl, rfl⟩ | exact decide_eq_true_iff | (refine ⟨?_, ?_⟩ <;> first | exact rfl | (simp only [ei, eb, es, ec, List.map_append, List.flatMap_append, List.nil_append, List.append_nil, List.append_assoc]; done) | omega | (simp only [List.nil_append, List.length_append, List.length_cons, List.length_nil]; omega) | (simp [ei, eb, es, ec]; done)) | (constructor <;> first | exact rfl | (simp only [ei, eb, es, ec, List.map_append, List.flatMap_append, List.nil_append, List.append_nil, List.append_assoc]; done) | omega | (simp only [List.nil_append, List.length_append, List.length_cons, List.length_nil]; omega) | (simp [ei, eb, es, ec]; done)) | exact rfl | (simp only [ei, eb, es, ec, List.map_append, List.flatMap_append, List.nil_append, List.append_nil, List.append_assoc]; done) | omega | (simp only [List.nil_append, List.length_append, List.length_cons, List.length_nil]; omega) | (simp [ei, eb, es, ec]; done) | simp [ei, eb, es, ec])) ?_)
    first | exact trivial | exact rfl
  · refine ob_ix hR0 (fun h => ei0 h) H fun h33 H => ?_
    refine ld_int (e := a0.getD (0 : Int).toNat 0) (rd_get hR0 (ei_get (l := a0) (tn h33))) ?_
    obtain ⟨v34, hv35, H⟩ := call_st H
    refine ⟨(a0.getD (0 : Int).toNat 0, v34), ⟨hv35⟩, ⟨trivial⟩, ?_⟩
    refine And.intro ⟨rfl⟩ ?_
    refine if_st H (fun h37 H => ?_) (fun h37 H => ?_)
    · have hfin := fin_st H
      repeat (refine And.intro (Ob.mk (by first | (rw [← hfin] <;> first | exact rfl | exact Iff.rfl | exact ⟨rfl, rfl⟩ | exact decide_eq_true_iff | (refine ⟨?_, ?_⟩ <;> first | exact rfl | (simp only [ei, eb, es, ec, List.map_append, List.flatMap_append, List.nil_append, List.append_nil, List.append_assoc]; done) | omega | (simp only [List.nil_append, List.length_append, List.length_cons, List.length_nil]; omega) | (simp [ei, eb, es, ec]; done)) | (constructor <;> first | exact rfl | (simp only [ei, eb, es, ec, List.map_append, List.flatMap_append, List.nil_append, List.append_nil, List.append_assoc]; done) | omega | (simp only [List.nil_append, List.length_append, List.length_cons, List.length_nil]; omega) | (simp [ei, eb, es, ec]; done)) | exact rfl | (simp only [ei, eb, es, ec, List.map_append, List.flatMap_append, List.nil_append, List.append_nil, List.append_assoc]; done) | omega | (simp only [List.nil_append, List.length_append, List.length_cons, List.length_nil]; omega) | (simp [ei, eb, es, ec]; done) | simp [ei, eb, es, ec]) | first | exact rfl | exact Iff.rfl | exact ⟨rfl, rfl⟩ | exact decide_eq_true_iff | (refine ⟨?_, ?_⟩ <;> first | exact rfl | (simp only [ei, eb, es, ec, List.map_append, List.flatMap_append, List.nil_append, List.append_nil, List.append_assoc]; done) | omega | (simp only [List.nil_append, List.length_append, List.length_cons, List.length_nil]; omega) | (simp [ei, eb, es, ec]; done)) | (constructor <;> first | exact rfl | (simp only [ei, eb, es, ec, List.map_append, List.flatMap_append, List.nil_append, List.append_nil, List.append_assoc]; done) | omega | (simp only [List.nil_append, List.length_append, List.length_cons, List.length_nil]; omega) | (simp [ei, eb, es, ec]; done)) | exact rfl | (simp only [ei, eb, es, ec, List.map_append, List.flatMap_append, List.nil_append, List.append_nil, List.append_assoc]; done) | omega | (simp only [List.nil_append, List.length_append, List.length_cons, List.length_nil]; omega) | (simp [ei, eb, es, ec]; done) | simp [ei, eb, es, ec])) ?_)
      first | exact trivial | exact rfl
    · refine R.cut_fam H 25 [5] [] (fun v106 => [(2, .v (.int .i32 (v106)))]) (fun v106 => []) [(10, .cells 87 [.v (.int .i64 (v34.1)), .v (.int .u8 (v34.2.1)), .v (.int .u8 (v34.2.2.1)), .v (.int .i32 (v34.2.2.2))])] 0 (fun H => ?_)
      refine And.intro ?_ ?_
      · refine R.loop_fam (bind_st H) [0, 5] [] (fun _ s110 => [(2, .v (.int .i32 (s110.1))), (6, .v (.int .i64 (s110.2)))]) (fun _ s110 => []) 0 (fun n154 H => ?_)
        refine ⟨(n154, _), ⟨H⟩, ⟨trivial⟩, ?_⟩
        repeat (refine And.intro (Ob.mk (by first | exact rfl | exact Iff.rfl | exact ⟨rfl, rfl⟩ | exact decide_eq_true_iff | (refine ⟨?_, ?_⟩ <;> first | exact rfl | (simp only [ei, eb, es, ec, List.map_append, List.flatMap_append, List.nil_append, List.append_nil, List.append_assoc]; done) | omega | (simp only [List.nil_append, List.length_append, List.length_cons, List.length_nil]; omega) | (simp [ei, eb, es, ec]; done)) | (constructor <;> first | exact rfl | (simp only [ei, eb, es, ec, List.map_append, List.flatMap_append, List.nil_append, List.append_nil, List.append_assoc]; done) | omega | (simp only [List.nil_append, List.length_append, List.length_cons, List.length_nil]; omega) | (simp [ei, eb, es, ec]; done)) | exact rfl | (simp only [ei, eb, es, ec, List.map_append, List.flatMap_append, List.nil_append, List.append_nil, List.append_assoc]; done) | omega | (simp only [List.nil_append, List.length_append, List.length_cons, List.length_nil]; omega) | (simp [ei, eb, es, ec]; done) | simp [ei, eb, es, ec])) ?_)
        rintro ⟨m0, s110⟩ H _
        obtain ⟨m111, hm0, H⟩ := IG_succ H
        dsimp only at hm0
        subst hm0
        try dsimp only at H
        refine if_st H (fun h139 H => ?_) (fun h139 H => ?_)
        · refine if_st H (fun h140 H => ?_) (fun h140 H => ?_)
          · replace H := some_st H
            dsimp only [stp, sm] at H
            have hfin := fin_st H
            repeat (refine And.intro (Ob.mk (by first | (rw [← hfin] <;> first | exact rfl | exact Iff.rfl | exact ⟨rfl, rfl⟩ | exact decide_eq_true_iff | (refine ⟨?_, ?_⟩ <;> first | exact rfl | (simp only [ei, eb, es, ec, List.map_append, List.flatMap_append, List.nil_append, List.append_nil, List.append_assoc]; done) | omega | (simp only [List.nil_append, List.length_append, List.length_cons, List.length_nil]; omega) | (simp [ei, eb, es, ec]; done)) | (constructor <;> first | exact rfl | (simp only [ei, eb, es, ec, List.map_append, List.flatMap_append, List.nil_append, List.append_nil, List.append_assoc]; done) | omega | (simp only [List.nil_append, List.length_append, List.length_cons, List.length_nil]; omega) | (simp [ei, eb, es, ec]; done)) | exact rfl | (simp only [ei, eb, es, ec, List.map_append, List.flatMap_append, List.nil_append, List.append_nil, List.append_assoc]; done) | omega | (simp only [List.nil_append, List.length_append, List.length_cons, List.length_nil]; omega) | (simp [ei, eb, es, ec]; done) | simp [ei, eb, es, ec]) | first | exact rfl | exact Iff.rfl | exact ⟨rfl, rfl⟩ | exact decide_eq_true_iff | (refine ⟨?_, ?_⟩ <;> first | exact rfl | (simp only [ei, eb, es, ec, List.map_append, List.flatMap_append, List.nil_append, List.append_nil, List.append_assoc]; done) | omega | (simp only [List.nil_append, List.length_append, List.length_cons, List.length_nil]; omega) | (simp [ei, eb, es, ec]; done)) | (constructor <;> first | exact rfl | (simp only [ei, eb, es, ec, List.map_append, List.flatMap_append, List.nil_append, List.append_nil, List.append_assoc]; done) | omega | (simp only [List.nil_append, List.length_append, List.length_cons, List.length_nil]; omega) | (simp [ei, eb, es, ec]; done)) | exact rfl | (simp only [ei, eb, es, ec, List.map_append, List.flatMap_append, List.nil_append, List.append_nil, List.append_assoc]; done) | omega | (simp only [List.nil_append, List.length_append, List.length_cons, List.length_nil]; omega) | (simp [ei, eb, es, ec]; done) | simp [ei, eb, es, ec])) ?_)
            first | exact trivial | exact rfl
          · refine R.cut_fam H 38 [0, 2, 5, 6] [] (fun v142 => [(7, .v (.int .u8 (v142.1))), (8, .v (.int .u8 (v142.2)))]) (fun v142 => []) [(10, .cells 87 [.v (.int .i64 (v34.1)), .v (.int .u8 (v34.2.1)), .v (.int .u8 (v34.2.2.1)), .v (.int .i32 (v34.2.2.2))])] 0 (fun H => ?_)
            refine And.intro ?_ ?_
            · refine if_st H (fun h144 H => ?_) (fun h144 H => ?_)
              · refine And.intro ⟨by kernel_rfl⟩ ?_
                refine ⟨(v34.2.1, v34.2.2.1), ⟨H⟩, ⟨rfl⟩, ?_⟩
                repeat (refine And.intro (Ob.mk (by first | exact rfl | exact Iff.rfl | exact ⟨rfl, rfl⟩ | exact decide_eq_true_iff | (refine ⟨?_, ?_⟩ <;> first | exact rfl | (simp only [ei, eb, es, ec, List.map_append, List.flatMap_append, List.nil_append, List.append_nil, List.append_assoc]; done) | omega | (simp only [List.nil_append, List.length_append, List.length_cons, List.length_nil]; omega) | (simp [ei, eb, es, ec]; done)) | (constructor <;> first | exact rfl | (simp only [ei, eb, es, ec, List.map_append, List.flatMap_append, List.nil_append, List.append_nil, List.append_assoc]; done) | omega | (simp only [List.nil_append, List.length_append, List.length_cons, List.length_nil]; omega) | (simp [ei, eb, es, ec]; done)) | exact rfl | (simp only [ei, eb, es, ec, List.map_append, List.flatMap_append, List.nil_append, List.append_nil, List.append_assoc]; done) | omega | (simp only [List.nil_append, List.length_append, List.length_cons, List.length_nil]; omega) | (simp [ei, eb, es, ec]; done) | simp [ei, eb, es, ec])) ?_)
                first | exact trivial | exact rfl
              · refine ⟨(128, 191), ⟨H⟩, ⟨rfl⟩, ?_⟩
                repeat (refine And.intro (Ob.mk (by first | exact rfl | exact Iff.rfl | exact ⟨rfl, rfl⟩ | exact decide_eq_true_iff | (refine ⟨?_, ?_⟩ <;> first | exact rfl | (simp only [ei, eb, es, ec, List.map_append, List.flatMap_append, List.nil_append, List.append_nil, List.append_assoc]; done) | omega | (simp only [List.nil_append, List.length_append, List.length_cons, List.length_nil]; omega) | (simp [ei, eb, es, ec]; done)) | (constructor <;> first | exact rfl | (simp only [ei, eb, es, ec, List.map_append, List.flatMap_append, List.nil_append, List.append_nil, List.append_assoc]; done) | omega | (simp only [List.nil_append, List.length_append, List.length_cons, List.length_nil]; omega) | (simp [ei, eb, es, ec]; done)) | exact rfl | (simp only [ei, eb, es, ec, List.map_append, List.flatMap_append, List.nil_append, List.append_nil, List.append_assoc]; done) | omega | (simp only [List.nil_append, List.length_append, List.length_cons, List.length_nil]; omega) | (simp [ei, eb, es, ec]; done) | simp [ei, eb, es, ec])) ?_)
                first | exact trivial | exact rfl
            · intro v142 H
              refine ob_ix hR0 (fun h => ei0 h) H fun h145 H => ?_
              refine ld_int (e := a0.getD s110.2.toNat 0) (rd_get hR0 (ei_get (l := a0) (tn h145))) ?_
              refine if_st H (fun h146 H => ?_) (fun h146 H => ?_)
              · replace H := some_st H
                dsimp only [stp, sm] at H
                have hfin := fin_st H
                repeat (refine And.intro (Ob.mk (by first | (rw [← hfin] <;> first | exact rfl | exact Iff.rfl | exact ⟨rfl, rfl⟩ | exact decide_eq_true_iff | (refine ⟨?_, ?_⟩ <;> first | exact rfl | (simp only [ei, eb, es, ec, List.map_append, List.flatMap_append, List.nil_append, List.append_nil, List.append_assoc]; done) | omega | (simp only [List.nil_append, List.length_append, List.length_cons, List.length_nil]; omega) | (simp [ei, eb, es, ec]; done)) | (constructor <;> first | exact rfl | (simp only [ei, eb, es, ec, List.map_append, List.flatMap_append, List.nil_append, List.append_nil, List.append_assoc]; done) | omega | (simp only [List.nil_append, List.length_append, List.length_cons, List.length_nil]; omega) | (simp [ei, eb, es, ec]; done)) | exact rfl | (simp only [ei, eb, es, ec, List.map_append, List.flatMap_append, List.nil_append, List.append_nil, List.append_assoc]; done) | omega | (simp only [List.nil_append, List.length_append, List.length_cons, List.length_nil]; omega) | (simp [ei, eb, es, ec]; done) | simp [ei, eb, es, ec]) | first | exact rfl | exact Iff.rfl | exact ⟨rfl, rfl⟩ | exact decide_eq_true_iff | (refine ⟨?_, ?_⟩ <;> first | exact rfl | (simp only [ei, eb, es, ec, List.map_append, List.flatMap_append, List.nil_append, List.append_nil, List.append_assoc]; done) | omega | (simp only [List.nil_append, List.length_append, List.length_cons, List.length_nil]; omega) | (simp [ei, eb, es, ec]; done)) | (constructor <;> first | exact rfl | (simp only [ei, eb, es, ec, List.map_append, List.flatMap_append, List.nil_append, List.append_nil, List.append_assoc]; done) | omega | (simp only [List.nil_append, List.length_append, List.length_cons, List.length_nil]; omega) | (simp [ei, eb, es, ec]; done)) | exact rfl | (simp only [ei, eb, es, ec, List.map_append, List.flatMap_append, List.nil_append, List.append_nil, List.append_assoc]; done) | omega | (simp only [List.nil_append, List.length_append, List.length_cons, List.length_nil]; omega) | (simp [ei, eb, es, ec]; done) | simp [ei, eb, es, ec])) ?_)
                first | exact trivial | exact rfl
              · refine ob_ix hR0 (fun h => ei0 h) H fun h147 H => ?_
                refine ld_int (e := a0.getD s110.2.toNat 0) (rd_get hR0 (ei_get (l := a0) (tn h147))) ?_
                refine if_st H (fun h148 H => ?_) (fun h148 H => ?_)
                · replace H := some_st H
                  dsimp only [stp, sm] at H
                  have hfin := fin_st H
                  repeat (refine And.intro (Ob.mk (by first | (rw [← hfin] <;> first | exact rfl | exact Iff.rfl | exact ⟨rfl, rfl⟩ | exact decide_eq_true_iff | (refine ⟨?_, ?_⟩ <;> first | exact rfl | (simp only [ei, eb, es, ec, List.map_append, List.flatMap_append, List.nil_append, List.append_nil, List.append_assoc]; done) | omega | (simp only [List.nil_append, List.length_append, List.length_cons, List.length_nil]; omega) | (simp [ei, eb, es, ec]; done)) | (constructor <;> first | exact rfl | (simp only [ei, eb, es, ec, List.map_append, List.flatMap_append, List.nil_append, List.append_nil, List.append_assoc]; done) | omega | (simp only [List.nil_append, List.length_append, List.length_cons, List.length_nil]; omega) | (simp [ei, eb, es, ec]; done)) | exact rfl | (simp only [ei, eb, es, ec, List.map_append, List.flatMap_append, List.nil_append, List.append_nil, List.append_assoc]; done) | omega | (simp only [List.nil_append, List.length_append, List.length_cons, List.length_nil]; omega) | (simp [ei, eb, es, ec]; done) | simp [ei, eb, es, ec]) | first | exact rfl | exact Iff.rfl | exact ⟨rfl, rfl⟩ | exact decide_eq_true_iff | (refine ⟨?_, ?_⟩ <;> first | exact rfl | (simp only [ei, eb, es, ec, List.map_append, List.flatMap_append, List.nil_append, List.append_nil, List.append_assoc]; done) | omega | (simp only [List.nil_append, List.length_append, List.length_cons, List.length_nil]; omega) | (simp [ei, eb, es, ec]; done)) | (constructor <;> first | exact rfl | (simp only [ei, eb, es, ec, List.map_append, List.flatMap_append, List.nil_append, List.append_nil, List.append_assoc]; done) | omega | (simp only [List.nil_append, List.length_append, List.length_cons, List.length_nil]; omega) | (simp [ei, eb, es, ec]; done)) | exact rfl | (simp only [ei, eb, es, ec, List.map_append, List.flatMap_append, List.nil_append, List.append_nil, List.append_assoc]; done) | omega | (simp only [List.nil_append, List.length_append, List.length_cons, List.length_nil]; omega) | (simp [ei, eb, es, ec]; done) | simp [ei, eb, es, ec])) ?_)
                  first | exact trivial | exact rfl
                · refine And.intro ⟨by decide⟩ ?_
                  refine ob_ix hR0 (fun h => ei0 h) H fun h149 H => ?_
                  refine ld_int (e := a0.getD s110.2.toNat 0) (rd_get hR0 (ei_get (l := a0) (tn h149))) ?_
                  refine ob_ck H fun h150 H => ?_
                  refine ob_ck H fun h151 H => ?_
                  replace H := some_st H
                  refine ⟨(m111, (bits .or .i32 (IntKind.wrap .i32 (s110.1 * 2 ^ (6 : Int).toNat)) (bits .and .u8 (a0.getD s110.2.toNat 0) 63), s110.2 + 1)), ⟨H, Nat.lt_succ_self _⟩, ⟨trivial⟩, ⟨rfl⟩, ?_⟩
                  repeat (refine And.intro (Ob.mk (by first | exact rfl | exact Iff.rfl | exact ⟨rfl, rfl⟩ | exact decide_eq_true_iff | (refine ⟨?_, ?_⟩ <;> first | exact rfl | (simp only [ei, eb, es, ec, List.map_append, List.flatMap_append, List.nil_append, List.append_nil, List.append_assoc]; done) | omega | (simp only [List.nil_append, List.length_append, List.length_cons, List.length_nil]; omega) | (simp [ei, eb, es, ec]; done)) | (constructor <;> first | exact rfl | (simp only [ei, eb, es, ec, List.map_append, List.flatMap_append, List.nil_append, List.append_nil, List.append_assoc]; done) | omega | (simp only [List.nil_append, List.length_append, List.length_cons, List.length_nil]; omega) | (simp [ei, eb, es, ec]; done)) | exact rfl | (simp only [ei, eb, es, ec, List.map_append, List.flatMap_append, List.nil_append, List.append_nil, List.append_assoc]; done) | omega | (simp only [List.nil_append, List.length_append, List.length_cons, List.length_nil]; omega) | (simp [ei, eb, es, ec]; done) | simp [ei, eb, es, ec])) ?_)
                  first | exact trivial | exact rfl
        · replace H := some_st H
          dsimp only [stp, sm] at H
          refine ⟨s110.1, ⟨H⟩, ⟨rfl⟩, ?_⟩
          repeat (refine And.intro (Ob.mk (by first | exact rfl | exact Iff.rfl | exact ⟨rfl, rfl⟩ | exact decide_eq_true_iff | (refine ⟨?_, ?_⟩ <;> first | exact rfl | (simp only [ei, eb, es, ec, List.map_append, List.flatMap_append, List.nil_append, List.append_nil, List.append_assoc]; done) | omega | (simp only [List.nil_append, List.length_append, List.length_cons, List.length_nil]; omega) | (simp [ei, eb, es, ec]; done)) | (constructor <;> first | exact rfl | (simp only [ei, eb, es, ec, List.map_append, List.flatMap_append, List.nil_append, List.append_nil, List.append_assoc]; done) | omega | (simp only [List.nil_append, List.length_append, List.length_cons, List.length_nil]; omega) | (simp [ei, eb, es, ec]; done)) | exact rfl | (simp only [ei, eb, es, ec, List.map_append, List.flatMap_append, List.nil_append, List.append_nil, List.append_assoc]; done) | omega | (simp only [List.nil_append, List.length_append, List.length_cons, List.length_nil]; omega) | (simp [ei, eb, es, ec]; done) | simp [ei, eb, es, ec])) ?_)
          first | exact trivial | exact rfl
      · intro v106 H
        refine And.intro ⟨by kernel_rfl⟩ ?_
        have hfin := fin_st H
        repeat (refine And.intro (Ob.mk (by first | (rw [← hfin] <;> first | exact rfl | exact Iff.rfl | exact ⟨rfl, rfl⟩ | exact decide_eq_true_iff | (refine ⟨?_, ?_⟩ <;> first | exact rfl | (simp only [ei, eb, es, ec, List.map_append, List.flatMap_append, List.nil_append, List.append_nil, List.append_assoc]; done) | omega | (simp only [List.nil_append, List.length_append, List.length_cons, List.length_nil]; omega) | (simp [ei, eb, es, ec]; done)) | (constructor <;> first | exact rfl | (simp only [ei, eb, es, ec, List.map_append, List.flatMap_append, List.nil_append, List.append_nil, List.append_assoc]; done) | omega | (simp only [List.nil_append, List.length_append, List.length_cons, List.length_nil]; omega) | (simp [ei, eb, es, ec]; done)) | exact rfl | (simp only [ei, eb, es, ec, List.map_append, List.flatMap_append, List.nil_append, List.append_nil, List.append_assoc]; done) | omega | (simp only [List.nil_append, List.length_append, List.length_cons, List.length_nil]; omega) | (simp [ei, eb, es, ec]; done) | simp [ei, eb, es, ec]) | first | exact rfl | exact Iff.rfl | exact ⟨rfl, rfl⟩ | exact decide_eq_true_iff | (refine ⟨?_, ?_⟩ <;> first | exact rfl | (simp only [ei, eb, es, ec, List.map_append, List.flatMap_append, List.nil_append, List.append_nil, List.append_assoc]; done) | omega | (simp only [List.nil_append, List.length_append, List.length_cons, List.length_nil]; omega) | (simp [ei, eb, es, ec]; done)) | (constructor <;> first | exact rfl | (simp only [ei, eb, es, ec, List.map_append, List.flatMap_append, List.nil_append, List.append_nil, List.append_assoc]; done) | omega | (simp only [List.nil_append, List.length_append, List.length_cons, List.length_nil]; omega) | (simp [ei, eb, es, ec]; done)) | exact rfl | (simp only [ei, eb, es, ec, List.map_append, List.flatMap_append, List.nil_append, List.append_nil, List.append_assoc]; done) | omega | (simp only [List.nil_append, List.length_append, List.length_cons, List.length_nil]; omega) | (simp [ei, eb, es, ec]; done) | simp [ei, eb, es, ec])) ?_)
        first | exact trivial | exact rfl
noncomputable def e15 (n : Nat) (a0 : List Int) : Option (Int × Int × Bool) :=
  if ((a0.length : Nat) : Int) = 0 then
    some (0, 0, true)
  else
    (
      ck (0 ≤ (0 : Int) ∧ 0 < ((a0.length : Nat) : Int)) <|
      (e57 n (a0.getD (0 : Int).toNat 0)).bind fun v34 =>
      if v34.1 = 0 then
        some (65533, 1, false)
      else
        (
          jn (α := _) (β := Int) (fun k107 =>
              (itN n (σ := Int × Int) (ρ := (Int × Int × Bool) ⊕ (Int)) (fun s110 =>
                  if s110.2 < v34.1 then
                    (
                      if ((a0.length : Nat) : Int) ≤ s110.2 then
                        some (.out (.inl ((0, 0, true))))
                      else
                        (
                          jn (α := _) (β := Int × Int) (fun k143 =>
                              if s110.2 = 1 then
                                k143 (v34.2.1, v34.2.2.1)
                              else
                                k143 (128, 191)
                          ) (fun v142 =>
                            ck (0 ≤ s110.2 ∧ s110.2 < ((a0.length : Nat) : Int)) <|
                            if (a0.getD s110.2.toNat 0) < v142.1 then
                              some (.out (.inl ((65533, 1, false))))
                            else
                              (
                                ck (0 ≤ s110.2 ∧ s110.2 < ((a0.length : Nat) : Int)) <|
                                if v142.2 < (a0.getD s110.2.toNat 0) then
                                  some (.out (.inl ((65533, 1, false))))
                                else
                                  (
                                    ck (0 ≤ s110.2 ∧ s110.2 < ((a0.length : Nat) : Int)) <|
                                    ck (inR .i32 (bits .and .u8 (a0.getD s110.2.toNat 0) 63)) <|
                                    ck (inR .i64 (s110.2 + 1)) <|
                                    some (.go (bits .or .i32 (IntKind.wrap .i32 (s110.1 * 2 ^ (6 : Int).toNat)) (bits .and .u8 (a0.getD s110.2.toNat 0) 63), s110.2 + 1))
                                  )
                              )
                          )
                        )
                    )
                  else
                    some (.out (.inr (s110.1)))
                ) (v34.2.2.2, 1)).bind fun o138 =>
              sm o138 (fun o152 =>
                  some (o152.1, o152.2.1, o152.2.2)
                ) (fun o153 =>
                  k107 o153
                )
          ) (fun v106 =>
            some (v106, v34.1, false)
          )
        )
    )
theorem e15_le (n : Nat) (a0 : List Int) : Le (e15 n a0) (g15 a0) := by
  unfold e15 g15
  repeat' first | exact e57_le _ _ | refine le_bind ?_ (fun _ => ?_) | refine le_ck ?_ | refine le_if ?_ ?_ | refine le_sm (fun _ => ?_) (fun _ => ?_) | refine le_jn (fun _ _ _ => ?_) (fun _ => ?_) | refine le_loop (fun _ => ?_) | with_reducible exact le_refl | apply_assumption

/-- placard/placardref01.low -/
noncomputable def g63 (a0 : Int) : Option (Int) :=
  ck (inR .i32 (128 + (Int.tmod a0 64))) <|
  some (IntKind.wrap .u8 (128 + (Int.tmod a0 64)))
noncomputable def k63 : Eng.CS := { f := 63, calm := true, more := 0, ι := Int × Int, ok := fun i => g63 i.1 = some i.2, rds := fun _ => [], args := fun i => [.w (.v (.int .i32 (i.1)))], res := fun i => .v (.int .u8 (i.2)) }
set_option maxRecDepth 8000 in
set_option maxHeartbeats 4000000 in
theorem k63_ok : CalmOk Try.prog k63 := by
  refine R.calmspec Try.func63 nm63 rfl ?_
  rintro ⟨a0, r⟩ hok q _ args hargs
  match args, hargs with
  | [_], hargs =>
  obtain ⟨rfl, _⟩ := hargs
  refine ⟨envC [] false [], 6, envC_ok (css_nil), rfl, (by intro x hx; simp only [List.mem_cons, List.not_mem_nil, or_false] at hx; rcases hx with rfl <;> rfl), ?_⟩
  have H : Gives (g63 a0) (fun a => a = r) := ⟨r, hok, rfl⟩
  unfold g63 at H
  clear hok
  refine And.intro ⟨by decide⟩ ?_
  refine ob_ck H fun h155 H => ?_
  have hfin := fin_st H
  repeat (refine And.intro (Ob.mk (by first | (rw [← hfin] <;> first | exact rfl | exact Iff.rfl | exact ⟨rfl, rfl⟩ | exact decide_eq_true_iff | (refine ⟨?_, ?_⟩ <;> first | exact rfl | (simp only [ei, eb, es, ec, List.map_append, List.flatMap_append, List.nil_append, List.append_nil, List.append_assoc]; done) | omega | (simp only [List.nil_append, List.length_append, List.length_cons, List.length_nil]; omega) | (simp [ei, eb, es, ec]; done)) | (constructor <;> first | exact rfl | (simp only [ei, eb, es, ec, List.map_append, List.flatMap_append, List.nil_append, List.append_nil, List.append_assoc]; done) | omega | (simp only [List.nil_append, List.length_append, List.length_cons, List.length_nil]; omega) | (simp [ei, eb, es, ec]; done)) | exact rfl | (simp only [ei, eb, es, ec, List.map_append, List.flatMap_append, List.nil_append, List.append_nil, List.append_assoc]; done) | omega | (simp only [List.nil_append, List.length_append, List.length_cons, List.length_nil]; omega) | (simp [ei, eb, es, ec]; done) | simp [ei, eb, es, ec]) | first | exact rfl | exact Iff.rfl | exact ⟨rfl, rfl⟩ | exact decide_eq_true_iff | (refine ⟨?_, ?_⟩ <;> first | exact rfl | (simp only [ei, eb, es, ec, List.map_append, List.flatMap_append, List.nil_append, List.append_nil, List.append_assoc]; done) | omega | (simp only [List.nil_append, List.length_append, List.length_cons, List.length_nil]; omega) | (simp [ei, eb, es, ec]; done)) | (constructor <;> first | exact rfl | (simp only [ei, eb, es, ec, List.map_append, List.flatMap_append, List.nil_append, List.append_nil, List.append_assoc]; done) | omega | (simp only [List.nil_append, List.length_append, List.length_cons, List.length_nil]; omega) | (simp [ei, eb, es, ec]; done)) | exact rfl | (simp only [ei, eb, es, ec, List.map_append, List.flatMap_append, List.nil_append, List.append_nil, List.append_assoc]; done) | omega | (simp only [List.nil_append, List.length_append, List.length_cons, List.length_nil]; omega) | (simp [ei, eb, es, ec]; done) | simp [ei, eb, es, ec])) ?_)
  first | exact trivial | exact rfl
noncomputable def e63 (n : Nat) (a0 : Int) : Option (Int) :=
  ck (inR .i32 (128 + (Int.tmod a0 64))) <|
  some (IntKind.wrap .u8 (128 + (Int.tmod a0 64)))
theorem e63_le (n : Nat) (a0 : Int) : Le (e63 n a0) (g63 a0) := by
  unfold e63 g63
  repeat' first | refine le_bind ?_ (fun _ => ?_) | refine le_ck ?_ | refine le_if ?_ ?_ | refine le_sm (fun _ => ?_) (fun _ => ?_) | refine le_jn (fun _ _ _ => ?_) (fun _ => ?_) | refine le_loop (fun _ => ?_) | with_reducible exact le_refl | apply_assumption

/-- placard/placardref01.Is -/
noncomputable def g19 (a0 : Int) : Option (Bool) :=
  if 0 ≤ a0 then
    (
      if a0 ≤ 1114111 then
        (
          if a0 < 55296 then
            some true
          else
            some (decide (57343 < a0))
        )
      else
        some false
    )
  else
    some false
noncomputable def k19 : Eng.CS := { f := 19, calm := true, more := 0, ι := Int × Bool, ok := fun i => g19 i.1 = some i.2, rds := fun _ => [], args := fun i => [.w (.v (.int .i32 (i.1)))], res := fun i => bS i.2 }
set_option maxRecDepth 8000 in
set_option maxHeartbeats 4000000 in
theorem k19_ok : CalmOk Try.prog k19 := by
  refine R.calmspec Try.func19 nm19 rfl ?_
  rintro ⟨a0, r⟩ hok q _ args hargs
  match args, hargs with
  | [_], hargs =>
  obtain ⟨rfl, _⟩ := hargs
  refine ⟨envC [] false [], 6, envC_ok (css_nil), rfl, (by intro x hx; simp only [List.mem_cons, List.not_mem_nil, or_false] at hx; rcases hx with rfl <;> rfl), ?_⟩
  have H : Gives (g19 a0) (fun a => a = r) := ⟨r, hok, rfl⟩
  unfold g19 at H
  clear hok
  refine if_st H (fun h156 H => ?_) (fun h156 H => ?_)
  · refine if_st H (fun h157 H => ?_) (fun h157 H => ?_)
    · refine if_st H (fun h158 H => ?_) (fun h158 H => ?_)
      · have hfin := fin_st H
        repeat (refine And.intro (Ob.mk (by first | (rw [← hfin] <;> first | exact rfl | exact Iff.rfl | exact ⟨rfl, rfl⟩ | exact decide_eq_true_iff | (refine ⟨?_, ?_⟩ <;> first | exact rfl | (simp only [ei, eb, es, ec, List.map_append, List.flatMap_append, List.nil_append, List.append_nil, List.append_assoc]; done) | omega | (simp only [List.nil_append, List.length_append, List.length_cons, List.length_nil]; omega) | (simp [ei, eb, es, ec]; done)) | (constructor <;> first | exact rfl | (simp only [ei, eb, es, ec, List.map_append, List.flatMap_append, List.nil_append, List.append_nil, List.append_assoc]; done) | omega | (simp only [List.nil_append, List.length_append, List.length_cons, List.length_nil]; omega) | (simp [ei, eb, es, ec]; done)) | exact rfl | (simp only [ei, eb, es, ec, List.map_append, List.flatMap_append, List.nil_append, List.append_nil, List.append_assoc]; done) | omega | (simp only [List.nil_append, List.length_append, List.length_cons, List.length_nil]; omega) | (simp [ei, eb, es, ec]; done) | simp [ei, eb, es, ec]) | first | exact rfl | exact Iff.rfl | exact ⟨rfl, rfl⟩ | exact decide_eq_true_iff | (refine ⟨?_, ?_⟩ <;> first | exact rfl | (simp only [ei, eb, es, ec, List.map_append, List.flatMap_append, List.nil_append, List.append_nil, List.append_assoc]; done) | omega | (simp only [List.nil_append, List.length_append, List.length_cons, List.length_nil]; omega) | (simp [ei, eb, es, ec]; done)) | (constructor <;> first | exact rfl | (simp only [ei, eb, es, ec, List.map_append, List.flatMap_append, List.nil_append, List.append_nil, List.append_assoc]; done) | omega | (simp only [List.nil_append, List.length_append, List.length_cons, List.length_nil]; omega) | (simp [ei, eb, es, ec]; done)) | exact rfl | (simp only [ei, eb, es, ec, List.map_append, List.flatMap_append, List.nil_append, List.append_nil, List.append_assoc]; done) | omega | (simp only [List.nil_append, List.length_append, List.length_cons, List.length_nil]; omega) | (simp [ei, eb, es, ec]; done) | simp [ei, eb, es, ec])) ?_)
        first | exact trivial | exact rfl
      · have hfin := fin_st H
        repeat (refine And.intro (Ob.mk (by first | (rw [← hfin] <;> first | exact rfl | exact Iff.rfl | exact ⟨rfl, rfl⟩ | exact decide_eq_true_iff | (refine ⟨?_, ?_⟩ <;> first | exact rfl | (simp only [ei, eb, es, ec, List.map_append, List.flatMap_append, List.nil_append, List.append_nil, List.append_assoc]; done) | omega | (simp only [List.nil_append, List.length_append, List.length_cons, List.length_nil]; omega) | (simp [ei, eb, es, ec]; done)) | (constructor <;> first | exact rfl | (simp only [ei, eb, es, ec, List.map_append, List.flatMap_append, List.nil_append, List.append_nil, List.append_assoc]; done) | omega | (simp only [List.nil_append, List.length_append, List.length_cons, List.length_nil]; omega) | (simp [ei, eb, es, ec]; done)) | exact rfl | (simp only [ei, eb, es, ec, List.map_append, List.flatMap_append, List.nil_append, List.append_nil, List.append_assoc]; done) | omega | (simp only [List.nil_append, List.length_append, List.length_cons, List.length_nil]; omega) | (simp [ei, eb, es, ec]; done) | simp [ei, eb, es, ec]) | first | exact rfl | exact Iff.rfl | exact ⟨rfl, rfl⟩ | exact decide_eq_true_iff | (refine ⟨?_, ?_⟩ <;> first | exact rfl | (simp only [ei, eb, es, ec, List.map_append, List.flatMap_append, List.nil_append, List.append_nil, List.append_assoc]; done) | omega | (simp only [List.nil_append, List.length_append, List.length_cons, List.length_nil]; omega) | (simp [ei, eb, es, ec]; done)) | (constructor <;> first | exact rfl | (simp only [ei, eb, es, ec, List.map_append, List.flatMap_append, List.nil_append, List.append_nil, List.append_assoc]; done) | omega | (simp only [List.nil_append, List.length_append, List.length_cons, List.length_nil]; omega) | (simp [ei, eb, es, ec]; done)) | exact rfl | (simp only [ei, eb, es, ec, List.map_append, List.flatMap_append, List.nil_append, List.append_nil, List.append_assoc]; done) | omega | (simp only [List.nil_append, List.length_append, List.length_cons, List.length_nil]; omega) | (simp [ei, eb, es, ec]; done) | simp [ei, eb, es, ec])) ?_)
        first | exact trivial | exact rfl
    · have hfin := fin_st H
      repeat (refine And.intro (Ob.mk (by first | (rw [← hfin] <;> first | exact rfl | exact Iff.rfl | exact ⟨rfl, rfl⟩ | exact decide_eq_true_iff | (refine ⟨?_, ?_⟩ <;> first | exact rfl | (simp only [ei, eb, es, ec, List.map_append, List.flatMap_append, List.nil_append, List.append_nil, List.append_assoc]; done) | omega | (simp only [List.nil_append, List.length_append, List.length_cons, List.length_nil]; omega) | (simp [ei, eb, es, ec]; done)) | (constructor <;> first | exact rfl | (simp only [ei, eb, es, ec, List.map_append, List.flatMap_append, List.nil_append, List.append_nil, List.append_assoc]; done) | omega | (simp only [List.nil_append, List.length_append, List.length_cons, List.length_nil]; omega) | (simp [ei, eb, es, ec]; done)) | exact rfl | (simp only [ei, eb, es, ec, List.map_append, List.flatMap_append, List.nil_append, List.append_nil, List.append_assoc]; done) | omega | (simp only [List.nil_append, List.length_append, List.length_cons, List.length_nil]; omega) | (simp [ei, eb, es, ec]; done) | simp [ei, eb, es, ec]) | first | exact rfl | exact Iff.rfl | exact ⟨rfl, rfl⟩ | exact decide_eq_true_iff | (refine ⟨?_, ?_⟩ <;> first | exact rfl | (simp only [ei, eb, es, ec, List.map_append, List.flatMap_append, List.nil_append, List.append_nil, List.append_assoc]; done) | omega | (simp only [List.nil_append, List.length_append, List.length_cons, List.length_nil]; omega) | (simp [ei, eb, es, ec]; done)) | (constructor <;> first | exact rfl | (simp only [ei, eb, es, ec, List.map_append, List.flatMap_append, List.nil_append, List.append_nil, List.append_assoc]; done) | omega | (simp only [List.nil_append, List.length_append, List.length_cons, List.length_nil]; omega) | (simp [ei, eb, es, ec]; done)) | exact rfl | (simp only [ei, eb, es, ec, List.map_append, List.flatMap_append, List.nil_append, List.append_nil, List.append_assoc]; done) | omega | (simp only [List.nil_append, List.length_append, List.length_cons, List.length_nil]; omega) | (simp [ei, eb, es, ec]; done) | simp [ei, eb, es, ec])) ?_)
      first | exact trivial | exact rfl
  · have hfin := fin_st H
    repeat (refine And.intro (Ob.mk (by first | (rw [← hfin] <;> first | exact rfl | exact Iff.rfl | exact ⟨rfl, rfl⟩ | exact decide_eq_true_iff | (refine ⟨?_, ?_⟩ <;> first | exact rfl | (simp only [ei, eb, es, ec, List.map_append, List.flatMap_append, List.nil_append, List.append_nil, List.append_assoc]; done) | omega | (simp only [List.nil_append, List.length_append, List.length_cons, List.length_nil]; omega) | (simp [ei, eb, es, ec]; done)) | (constructor <;> first | exact rfl | (simp only [ei, eb, es, ec, List.map_append, List.flatMap_append, List.nil_append, List.append_nil, List.append_assoc]; done) | omega | (simp only [List.nil_append, List.length_append, List.length_cons, List.length_nil]; omega) | (simp [ei, eb, es, ec]; done)) | exact rfl | (simp only [ei, eb, es, ec, List.map_append, List.flatMap_append, List.nil_append, List.append_nil, List.append_assoc]; done) | omega | (simp only [List.nil_append, List.length_append, List.length_cons, List.length_nil]; omega) | (simp [ei, eb, es, ec]; done) | simp [ei, eb, es, ec]) | first | exact rfl | exact Iff.rfl | exact ⟨rfl, rfl⟩ | exact decide_eq_true_iff | (refine ⟨?_, ?_⟩ <;> first | exact rfl | (simp only [ei, eb, es, ec, List.map_append, List.flatMap_append, List.nil_append, List.append_nil, List.append_assoc]; done) | omega | (simp only [List.nil_append, List.length_append, List.length_cons, List.length_nil]; omega) | (simp [ei, eb, es, ec]; done)) | (constructor <;> first | exact rfl | (simp only [ei, eb, es, ec, List.map_append, List.flatMap_append, List.nil_append, List.append_nil, List.append_assoc]; done) | omega | (simp only [List.nil_append, List.length_append, List.length_cons, List.length_nil]; omega) | (simp [ei, eb, es, ec]; done)) | exact rfl | (simp only [ei, eb, es, ec, List.map_append, List.flatMap_append, List.nil_append, List.append_nil, List.append_assoc]; done) | omega | (simp only [List.nil_append, List.length_append, List.length_cons, List.length_nil]; omega) | (simp [ei, eb, es, ec]; done) | simp [ei, eb, es, ec])) ?_)
    first | exact trivial | exact rfl
noncomputable def e19 (n : Nat) (a0 : Int) : Option (Bool) :=
  if 0 ≤ a0 then
    (
      if a0 ≤ 1114111 then
        (
          if a0 < 55296 then
            some true
          else
            some (decide (57343 < a0))
        )
      else
        some false
    )
  else
    some false
theorem e19_le (n : Nat) (a0 : Int) : Le (e19 n a0) (g19 a0) := by
  unfold e19 g19
  repeat' first | refine le_bind ?_ (fun _ => ?_) | refine le_ck ?_ | refine le_if ?_ ?_ | refine le_sm (fun _ => ?_) (fun _ => ?_) | refine le_jn (fun _ _ _ => ?_) (fun _ => ?_) | refine le_loop (fun _ => ?_) | with_reducible exact le_refl | apply_assumption

/-- placard/runes.Bytes -/
noncomputable def g17 (a0 : Int) : Option (List Int) :=
  jn (α := _) (β := Int) (fun k166 =>
      (g61 a0).bind fun v167 =>
      if ¬ (v167 = true) then
        k166 65533
      else
        k166 a0
  ) (fun v165 =>
    if v165 < 128 then
      some ([IntKind.wrap .u8 v165])
    else
      (
        if v165 < 2048 then
          (
            (g62 v165 0).bind fun v181 =>
            some ([bits .or .u8 192 (IntKind.wrap .u8 (v165 / 2 ^ (6 : Int).toNat)), v181])
          )
        else
          (
            if v165 < 65536 then
              (
                (g62 v165 6).bind fun v184 =>
                (g62 v165 0).bind fun v186 =>
                some ([bits .or .u8 224 (IntKind.wrap .u8 (v165 / 2 ^ (12 : Int).toNat)), v184, v186])
              )
            else
              (
                (g62 v165 12).bind fun v188 =>
                (g62 v165 6).bind fun v190 =>
                (g62 v165 0).bind fun v192 =>
                some ([bits .or .u8 240 (IntKind.wrap .u8 (v165 / 2 ^ (18 : Int).toNat)), v188, v190, v192])
              )
          )
      )
  )
noncomputable def k17 : Eng.CS := { f := 17, calm := false, more := 1, ι := Int × List Int, ok := fun i => g17 i.1 = some i.2, rds := fun _ => [], args := fun i => [.w (.v (.int .i32 (i.1)))], res := fun i => .own 0, L' := fun i => [(0, .arr 5 1 i.2.length (ei .u8 i.2))], rn := [(0, 0, 5, 1)] }
set_option maxRecDepth 8000 in
set_option maxHeartbeats 4000000 in
theorem k17_ok : CSOk Try.prog k17 := by
  refine R.cspec Try.func17 nm17 rfl ?_
  rintro ⟨a0, r⟩ hok q _ args hargs
  match args, hargs with
  | [_], hargs =>
  obtain ⟨rfl, _⟩ := hargs
  refine ⟨envC [k61, k62] false [(17, 3)], 6, envC_ok (css_cons ⟨fun _ => k61_ok, fun h => (by cases h)⟩ (css_cons ⟨fun _ => k62_ok, fun h => (by cases h)⟩ (css_nil))), ?_⟩
  have H : Gives (g17 a0) (fun a => a = r) := ⟨r, hok, rfl⟩
  unfold g17 at H
  clear hok
  refine R.cut_fam H 6 [] [] (fun v165 => [(0, .v (.int .i32 (v165)))]) (fun v165 => []) [] 0 (fun H => ?_)
  refine And.intro ?_ ?_
  · obtain ⟨v167, hv168, H⟩ := call_st H
    refine ⟨(a0, v167), ⟨hv168⟩, ⟨trivial⟩, ?_⟩
    refine And.intro ⟨rfl⟩ ?_
    refine if_st H (fun h169 H => ?_) (fun h169 H => ?_)
    · refine ⟨65533, ⟨H⟩, ⟨rfl⟩, ?_⟩
      repeat (refine And.intro (Ob.mk (by first | exact rfl | exact Iff.rfl | exact ⟨rfl, rfl⟩ | exact decide_eq_true_iff | (refine ⟨?_, ?_⟩ <;> first | exact rfl | (simp only [ei, eb, es, ec, List.map_append, List.flatMap_append, List.nil_append, List.append_nil, List.append_assoc]; done) | omega | (simp only [List.nil_append, List.length_append, List.length_cons, List.length_nil]; omega) | (simp [ei, eb, es, ec]; done)) | (constructor <;> first | exact rfl | (simp only [ei, eb, es, ec, List.map_append, List.flatMap_append, List.nil_append, List.append_nil, List.append_assoc]; done) | omega | (simp only [List.nil_append, List.length_append, List.length_cons, List.length_nil]; omega) | (simp [ei, eb, es, ec]; done)) | exact rfl | (simp only [ei, eb, es, ec, List.map_append, List.flatMap_append, List.nil_append, List.append_nil, List.append_assoc]; done) | omega | (simp only [List.nil_append, List.length_append, List.length_cons, List.length_nil]; omega) | (simp [ei, eb, es, ec]; done) | simp [ei, eb, es, ec])) ?_)
      first | exact trivial | exact rfl
    · refine ⟨a0, ⟨H⟩, ⟨rfl⟩, ?_⟩
      repeat (refine And.intro (Ob.mk (by first | exact rfl | exact Iff.rfl | exact ⟨rfl, rfl⟩ | exact decide_eq_true_iff | (refine ⟨?_, ?_⟩ <;> first | exact rfl | (simp only [ei, eb, es, ec, List.map_append, List.flatMap_append, List.nil_append, List.append_nil, List.append_assoc]; done) | omega | (simp only [List.nil_append, List.length_append, List.length_cons, List.length_nil]; omega) | (simp [ei, eb, es, ec]; done)) | (constructor <;> first | exact rfl | (simp only [ei, eb, es, ec, List.map_append, List.flatMap_append, List.nil_append, List.append_nil, List.append_assoc]; done) | omega | (simp only [List.nil_append, List.length_append, List.length_cons, List.length_nil]; omega) | (simp [ei, eb, es, ec]; done)) | exact rfl | (simp only [ei, eb, es, ec, List.map_append, List.flatMap_append, List.nil_append, List.append_nil, List.append_assoc]; done) | omega | (simp only [List.nil_append, List.length_append, List.length_cons, List.length_nil]; omega) | (simp [ei, eb, es, ec]; done) | simp [ei, eb, es, ec])) ?_)
      first | exact trivial | exact rfl
  · intro v165 H
    refine if_st H (fun h179 H => ?_) (fun h179 H => ?_)
    · have hfin := fin_st H
      repeat (refine And.intro (Ob.mk (by first | (rw [← hfin] <;> first | exact rfl | exact Iff.rfl | exact ⟨rfl, rfl⟩ | exact decide_eq_true_iff | (refine ⟨?_, ?_⟩ <;> first | exact rfl | (simp only [ei, eb, es, ec, List.map_append, List.flatMap_append, List.nil_append, List.append_nil, List.append_assoc]; done) | omega | (simp only [List.nil_append, List.length_append, List.length_cons, List.length_nil]; omega) | (simp [ei, eb, es, ec]; done)) | (constructor <;> first | exact rfl | (simp only [ei, eb, es, ec, List.map_append, List.flatMap_append, List.nil_append, List.append_nil, List.append_assoc]; done) | omega | (simp only [List.nil_append, List.length_append, List.length_cons, List.length_nil]; omega) | (simp [ei, eb, es, ec]; done)) | exact rfl | (simp only [ei, eb, es, ec, List.map_append, List.flatMap_append, List.nil_append, List.append_nil, List.append_assoc]; done) | omega | (simp only [List.nil_append, List.length_append, List.length_cons, List.length_nil]; omega) | (simp [ei, eb, es, ec]; done) | simp [ei, eb, es, ec]) | first | exact rfl | exact Iff.rfl | exact ⟨rfl, rfl⟩ | exact decide_eq_true_iff | (refine ⟨?_, ?_⟩ <;> first | exact rfl | (simp only [ei, eb, es, ec, List.map_append, List.flatMap_append, List.nil_append, List.append_nil, List.append_assoc]; done) | omega | (simp only [List.nil_append, List.length_append, List.length_cons, List.length_nil]; omega) | (simp [ei, eb, es, ec]; done)) | (constructor <;> first | exact rfl | (simp only [ei, eb, es, ec, List.map_append, List.flatMap_append, List.nil_append, List.append_nil, List.append_assoc]; done) | omega | (simp only [List.nil_append, List.length_append, List.length_cons, List.length_nil]; omega) | (simp [ei, eb, es, ec]; done)) | exact rfl | (simp only [ei, eb, es, ec, List.map_append, List.flatMap_append, List.nil_append, List.append_nil, List.append_assoc]; done) | omega | (simp only [List.nil_append, List.length_append, List.length_cons, List.length_nil]; omega) | (simp [ei, eb, es, ec]; done) | simp [ei, eb, es, ec])) ?_)
      first | exact trivial | exact rfl
    · refine if_st H (fun h180 H => ?_) (fun h180 H => ?_)
      · refine And.intro ⟨by decide⟩ ?_
        obtain ⟨v181, hv182, H⟩ := call_st H
        refine ⟨(v165, 0, v181), ⟨hv182⟩, ⟨trivial⟩, ?_⟩
        refine And.intro ⟨rfl⟩ ?_
        refine And.intro ⟨rfl⟩ ?_
        have hfin := fin_st H
        repeat (refine And.intro (Ob.mk (by first | (rw [← hfin] <;> first | exact rfl | exact Iff.rfl | exact ⟨rfl, rfl⟩ | exact decide_eq_true_iff | (refine ⟨?_, ?_⟩ <;> first | exact rfl | (simp only [ei, eb, es, ec, List.map_append, List.flatMap_append, List.nil_append, List.append_nil, List.append_assoc]; done) | omega | (simp only [List.nil_append, List.length_append, List.length_cons, List.length_nil]; omega) | (simp [ei, eb, es, ec]; done)) | (constructor <;> first | exact rfl | (simp only [ei, eb, es, ec, List.map_append, List.flatMap_append, List.nil_append, List.append_nil, List.append_assoc]; done) | omega | (simp only [List.nil_append, List.length_append, List.length_cons, List.length_nil]; omega) | (simp [ei, eb, es, ec]; done)) | exact rfl | (simp only [ei, eb, es, ec, List.map_append, List.flatMap_append, List.nil_append, List.append_nil, List.append_assoc]; done) | omega | (simp only [List.nil_append, List.length_append, List.length_cons, List.length_nil]; omega) | (simp [ei, eb, es, ec]; done) | simp [ei, eb, es, ec]) | first | exact rfl | exact Iff.rfl | exact ⟨rfl, rfl⟩ | exact decide_eq_true_iff | (refine ⟨?_, ?_⟩ <;> first | exact rfl | (simp only [ei, eb, es, ec, List.map_append, List.flatMap_append, List.nil_append, List.append_nil, List.append_assoc]; done) | omega | (simp only [List.nil_append, List.length_append, List.length_cons, List.length_nil]; omega) | (simp [ei, eb, es, ec]; done)) | (constructor <;> first | exact rfl | (simp only [ei, eb, es, ec, List.map_append, List.flatMap_append, List.nil_append, List.append_nil, List.append_assoc]; done) | omega | (simp only [List.nil_append, List.length_append, List.length_cons, List.length_nil]; omega) | (simp [ei, eb, es, ec]; done)) | exact rfl | (simp only [ei, eb, es, ec, List.map_append, List.flatMap_append, List.nil_append, List.append_nil, List.append_assoc]; done) | omega | (simp only [List.nil_append, List.length_append, List.length_cons, List.length_nil]; omega) | (simp [ei, eb, es, ec]; done) | simp [ei, eb, es, ec])) ?_)
        first | exact trivial | exact rfl
      · refine if_st H (fun h183 H => ?_) (fun h183 H => ?_)
        · refine And.intro ⟨by decide⟩ ?_
          obtain ⟨v184, hv185, H⟩ := call_st H
          refine ⟨(v165, 6, v184), ⟨hv185⟩, ⟨trivial⟩, ?_⟩
          refine And.intro ⟨rfl⟩ ?_
          refine And.intro ⟨rfl⟩ ?_
          obtain ⟨v186, hv187, H⟩ := call_st H
          refine ⟨(v165, 0, v186), ⟨hv187⟩, ⟨trivial⟩, ?_⟩
          refine And.intro ⟨rfl⟩ ?_
          refine And.intro ⟨rfl⟩ ?_
          have hfin := fin_st H
          repeat (refine And.intro (Ob.mk (by first | (rw [← hfin] <;> first | exact rfl | exact Iff.rfl | exact ⟨rfl, rfl⟩ | exact decide_eq_true_iff | (refine ⟨?_, ?_⟩ <;> first | exact rfl | (simp only [ei, eb, es, ec, List.map_append, List.flatMap_append, List.nil_append, List.append_nil, List.append_assoc]; done) | omega | (simp only [List.nil_append, List.length_append, List.length_cons, List.length_nil]; omega) | (simp [ei, eb, es, ec]; done)) | (constructor <;> first | exact rfl | (simp only [ei, eb, es, ec, List.map_append, List.flatMap_append, List.nil_append, List.append_nil, List.append_assoc]; done) | omega | (simp only [List.nil_append, List.length_append, List.length_cons, List.length_nil]; omega) | (simp [ei, eb, es, ec]; done)) | exact rfl | (simp only [ei, eb, es, ec, List.map_append, List.flatMap_append, List.nil_append, List.append_nil, List.append_assoc]; done) | omega | (simp only [List.nil_append, List.length_append, List.length_cons, List.length_nil]; omega) | (simp [ei, eb, es, ec]; done) | simp [ei, eb, es, ec]) | first | exact rfl | exact Iff.rfl | exact ⟨rfl, rfl⟩ | exact decide_eq_true_iff | (refine ⟨?_, ?_⟩ <;> first | exact rfl | (simp only [ei, eb, es, ec, List.map_append, List.flatMap_append, List.nil_append, List.append_nil, List.append_assoc]; done) | omega | (simp only [List.nil_append, List.length_append, List.length_cons, List.length_nil]; omega) | (simp [ei, eb, es, ec]; done)) | (constructor <;> first | exact rfl | (simp only [ei, eb, es, ec, List.map_append, List.flatMap_append, List.nil_append, List.append_nil, List.append_assoc]; done) | omega | (simp only [List.nil_append, List.length_append, List.length_cons, List.length_nil]; omega) | (simp [ei, eb, es, ec]; done)) | exact rfl | (simp only [ei, eb, es, ec, List.map_append, List.flatMap_append, List.nil_append, List.append_nil, List.append_assoc]; done) | omega | (simp only [List.nil_append, List.length_append, List.length_cons, List.length_nil]; omega) | (simp [ei, eb, es, ec]; done) | simp [ei, eb, es, ec])) ?_)
          first | exact trivial | exact rfl
        · refine And.intro ⟨by decide⟩ ?_
          obtain ⟨v188, hv189, H⟩ := call_st H
          refine ⟨(v165, 12, v188), ⟨hv189⟩, ⟨trivial⟩, ?_⟩
          refine And.intro ⟨rfl⟩ ?_
          refine And.intro ⟨rfl⟩ ?_
          obtain ⟨v190, hv191, H⟩ := call_st H
          refine ⟨(v165, 6, v190), ⟨hv191⟩, ⟨trivial⟩, ?_⟩
          refine And.intro ⟨rfl⟩ ?_
          refine And.intro ⟨rfl⟩ ?_
          obtain ⟨v192, hv193, H⟩ := call_st H
          refine ⟨(v165, 0, v192), ⟨hv193⟩, ⟨trivial⟩, ?_⟩
          refine And.intro ⟨rfl⟩ ?_
          refine And.intro ⟨rfl⟩ ?_
          have hfin := fin_st H
          repeat (refine And.intro (Ob.mk (by first | (rw [← hfin] <;> first | exact rfl | exact Iff.rfl | exact ⟨rfl, rfl⟩ | exact decide_eq_true_iff | (refine ⟨?_, ?_⟩ <;> first | exact rfl | (simp only [ei, eb, es, ec, List.map_append, List.flatMap_append, List.nil_append, List.append_nil, List.append_assoc]; done) | omega | (simp only [List.nil_append, List.length_append, List.length_cons, List.length_nil]; omega) | (simp [ei, eb, es, ec]; done)) | (constructor <;> first | exact rfl | (simp only [ei, eb, es, ec, List.map_append, List.flatMap_append, List.nil_append, List.append_nil, List.append_assoc]; done) | omega | (simp only [List.nil_append, List.length_append, List.length_cons, List.length_nil]; omega) | (simp [ei, eb, es, ec]; done)) | exact rfl | (simp only [ei, eb, es, ec, List.map_append, List.flatMap_append, List.nil_append, List.append_nil, List.append_assoc]; done) | omega | (simp only [List.nil_append, List.length_append, List.length_cons, List.length_nil]; omega) | (simp [ei, eb, es, ec]; done) | simp [ei, eb, es, ec]) | first | exact rfl | exact Iff.rfl | exact ⟨rfl, rfl⟩ | exact decide_eq_true_iff | (refine ⟨?_, ?_⟩ <;> first | exact rfl | (simp only [ei, eb, es, ec, List.map_append, List.flatMap_append, List.nil_append, List.append_nil, List.append_assoc]; done) | omega | (simp only [List.nil_append, List.length_append, List.length_cons, List.length_nil]; omega) | (simp [ei, eb, es, ec]; done)) | (constructor <;> first | exact rfl | (simp only [ei, eb, es, ec, List.map_append, List.flatMap_append, List.nil_append, List.append_nil, List.append_assoc]; done) | omega | (simp only [List.nil_append, List.length_append, List.length_cons, List.length_nil]; omega) | (simp [ei, eb, es, ec]; done)) | exact rfl | (simp only [ei, eb, es, ec, List.map_append, List.flatMap_append, List.nil_append, List.append_nil, List.append_assoc]; done) | omega | (simp only [List.nil_append, List.length_append, List.length_cons, List.length_nil]; omega) | (simp [ei, eb, es, ec]; done) | simp [ei, eb, es, ec])) ?_)
          first | exact trivial | exact rfl
noncomputable def e17 (n : Nat) (a0 : Int) : Option (List Int) :=
  jn (α := _) (β := Int) (fun k166 =>
      (e61 n a0).bind fun v167 =>
      if ¬ (v167 = true) then
        k166 65533
      else
        k166 a0
  ) (fun v165 =>
    if v165 < 128 then
      some ([IntKind.wrap .u8 v165])
    else
      (
        if v165 < 2048 then
          (
            (e62 n v165 0).bind fun v181 =>
            some ([bits .or .u8 192 (IntKind.wrap .u8 (v165 / 2 ^ (6 : Int).toNat)), v181])
          )
        else
          (
            if v165 < 65536 then
              (
                (e62 n v165 6).bind fun v184 =>
                (e62 n v165 0).bind fun v186 =>
                some ([bits .or .u8 224 (IntKind.wrap .u8 (v165 / 2 ^ (12 : Int).toNat)), v184, v186])
              )
            else
              (
                (e62 n v165 12).bind fun v188 =>
                (e62 n v165 6).bind fun v190 =>
                (e62 n v165 0).bind fun v192 =>
                some ([bits .or .u8 240 (IntKind.wrap .u8 (v165 / 2 ^ (18 : Int).toNat)), v188, v190, v192])
              )
          )
      )
  )
theorem e17_le (n : Nat) (a0 : Int) : Le (e17 n a0) (g17 a0) := by
  unfold e17 g17
  repeat' first | exact e61_le _ _ | exact e62_le _ _ _ | refine le_bind ?_ (fun _ => ?_) | refine le_ck ?_ | refine le_if ?_ ?_ | refine le_sm (fun _ => ?_) (fun _ => ?_) | refine le_jn (fun _ _ _ => ?_) (fun _ => ?_) | refine le_loop (fun _ => ?_) | with_reducible exact le_refl | apply_assumption

/-- placard/placardref01.Bytes -/
noncomputable def g18 (a0 : Int) : Option (List Int) :=
  jn (α := _) (β := Int) (fun k201 =>
      (g19 a0).bind fun v202 =>
      if ¬ (v202 = true) then
        k201 65533
      else
        k201 a0
  ) (fun v200 =>
    if v200 < 128 then
      some ([IntKind.wrap .u8 v200])
    else
      (
        if v200 < 2048 then
          (
            ck (inR .i32 (Int.tdiv v200 64)) <|
            ck (inR .i32 (192 + (Int.tdiv v200 64))) <|
            (g63 v200).bind fun v223 =>
            some ([IntKind.wrap .u8 (192 + (Int.tdiv v200 64)), v223])
          )
        else
          (
            if v200 < 65536 then
              (
                ck (inR .i32 (Int.tdiv v200 4096)) <|
                ck (inR .i32 (224 + (Int.tdiv v200 4096))) <|
                ck (inR .i32 (Int.tdiv v200 64)) <|
                (g63 (Int.tdiv v200 64)).bind fun v229 =>
                (g63 v200).bind fun v231 =>
                some ([IntKind.wrap .u8 (224 + (Int.tdiv v200 4096)), v229, v231])
              )
            else
              (
                ck (inR .i32 (Int.tdiv v200 262144)) <|
                ck (inR .i32 (240 + (Int.tdiv v200 262144))) <|
                ck (inR .i32 (Int.tdiv v200 4096)) <|
                (g63 (Int.tdiv v200 4096)).bind fun v236 =>
                ck (inR .i32 (Int.tdiv v200 64)) <|
                (g63 (Int.tdiv v200 64)).bind fun v239 =>
                (g63 v200).bind fun v241 =>
                some ([IntKind.wrap .u8 (240 + (Int.tdiv v200 262144)), v236, v239, v241])
              )
          )
      )
  )
noncomputable def k18 : Eng.CS := { f := 18, calm := false, more := 1, ι := Int × List Int, ok := fun i => g18 i.1 = some i.2, rds := fun _ => [], args := fun i => [.w (.v (.int .i32 (i.1)))], res := fun i => .own 0, L' := fun i => [(0, .arr 5 1 i.2.length (ei .u8 i.2))], rn := [(0, 0, 5, 1)] }
set_option maxRecDepth 8000 in
set_option maxHeartbeats 4000000 in
theorem k18_ok : CSOk Try.prog k18 := by
  refine R.cspec Try.func18 nm18 rfl ?_
  rintro ⟨a0, r⟩ hok q _ args hargs
  match args, hargs with
  | [_], hargs =>
  obtain ⟨rfl, _⟩ := hargs
  refine ⟨envC [k19, k63] false [(18, 3)], 6, envC_ok (css_cons ⟨fun _ => k19_ok, fun h => (by cases h)⟩ (css_cons ⟨fun _ => k63_ok, fun h => (by cases h)⟩ (css_nil))), ?_⟩
  have H : Gives (g18 a0) (fun a => a = r) := ⟨r, hok, rfl⟩
  unfold g18 at H
  clear hok
  refine R.cut_fam H 6 [] [] (fun v200 => [(0, .v (.int .i32 (v200)))]) (fun v200 => []) [] 0 (fun H => ?_)
  refine And.intro ?_ ?_
  · obtain ⟨v202, hv203, H⟩ := call_st H
    refine ⟨(a0, v202), ⟨hv203⟩, ⟨trivial⟩, ?_⟩
    refine And.intro ⟨rfl⟩ ?_
    refine if_st H (fun h204 H => ?_) (fun h204 H => ?_)
    · refine ⟨65533, ⟨H⟩, ⟨rfl⟩, ?_⟩
      repeat (refine And.intro (Ob.mk (by first | exact rfl | exact Iff.rfl | exact ⟨rfl, rfl⟩ | exact decide_eq_true_iff | (refine ⟨?_, ?_⟩ <;> first | exact rfl | (simp only [ei, eb, es, ec, List.map_append, List.flatMap_append, List.nil_append, List.append_nil, List.append_assoc]; done) | omega | (simp only [List.nil_append, List.length_append, List.length_cons, List.length_nil]; omega) | (simp [ei, eb, es, ec]; done)) | (constructor <;> first | exact rfl | (simp only [ei, eb, es, ec, List.map_append, List.flatMap_append, List.nil_append, List.append_nil, List.append_assoc]; done) | omega | (simp only [List.nil_append, List.length_append, List.length_cons, List.length_nil]; omega) | (simp [ei, eb, es, ec]; done)) | exact rfl | (simp only [ei, eb, es, ec, List.map_append, List.flatMap_append, List.nil_append, List.append_nil, List.append_assoc]; done) | omega | (simp only [List.nil_append, List.length_append, List.length_cons, List.length_nil]; omega) | (simp [ei, eb, es, ec]; done) | simp [ei, eb, es, ec])) ?_)
      first | exact trivial | exact rfl
    · refine ⟨a0, ⟨H⟩, ⟨rfl⟩, ?_⟩
      repeat (refine And.intro (Ob.mk (by first | exact rfl | exact Iff.rfl | exact ⟨rfl, rfl⟩ | exact decide_eq_true_iff | (refine ⟨?_, ?_⟩ <;> first | exact rfl | (simp only [ei, eb, es, ec, List.map_append, List.flatMap_append, List.nil_append, List.append_nil, List.append_assoc]; done) | omega | (simp only [List.nil_append, List.length_append, List.length_cons, List.length_nil]; omega) | (simp [ei, eb, es, ec]; done)) | (constructor <;> first | exact rfl | (simp only [ei, eb, es, ec, List.map_append, List.flatMap_append, List.nil_append, List.append_nil, List.append_assoc]; done) | omega | (simp only [List.nil_append, List.length_append, List.length_cons, List.length_nil]; omega) | (simp [ei, eb, es, ec]; done)) | exact rfl | (simp only [ei, eb, es, ec, List.map_append, List.flatMap_append, List.nil_append, List.append_nil, List.append_assoc]; done) | omega | (simp only [List.nil_append, List.length_append, List.length_cons, List.length_nil]; omega) | (simp [ei, eb, es, ec]; done) | simp [ei, eb, es, ec])) ?_)
      first | exact trivial | exact rfl
  · intro v200 H
    refine if_st H (fun h219 H => ?_) (fun h219 H => ?_)
    · have hfin := fin_st H
      repeat (refine And.intro (Ob.mk (by first | (rw [← hfin] <;> first | exact rfl | exact Iff.rfl | exact ⟨rfl, rfl⟩ | exact decide_eq_true_iff | (refine ⟨?_, ?_⟩ <;> first | exact rfl | (simp only [ei, eb, es, ec, List.map_append, List.flatMap_append, List.nil_append, List.append_nil, List.append_assoc]; done) | omega | (simp only [List.nil_append, List.length_append, List.length_cons, List.length_nil]; omega) | (simp [ei, eb, es, ec]; done)) | (constructor <;> first | exact rfl | (simp only [ei, eb, es, ec, List.map_append, List.flatMap_append, List.nil_append, List.append_nil, List.append_assoc]; done) | omega | (simp only [List.nil_append, List.length_append, List.length_cons, List.length_nil]; omega) | (simp [ei, eb, es, ec]; done)) | exact rfl | (simp only [ei, eb, es, ec, List.map_append, List.flatMap_append, List.nil_append, List.append_nil, List.append_assoc]; done) | omega | (simp only [List.nil_append, List.length_append, List.length_cons, List.length_nil]; omega) | (simp [ei, eb, es, ec]; done) | simp [ei, eb, es, ec]) | first | exact rfl | exact Iff.rfl | exact ⟨rfl, rfl⟩ | exact decide_eq_true_iff | (refine ⟨?_, ?_⟩ <;> first | exact rfl | (simp only [ei, eb, es, ec, List.map_append, List.flatMap_append, List.nil_append, List.append_nil, List.append_assoc]; done) | omega | (simp only [List.nil_append, List.length_append, List.length_cons, List.length_nil]; omega) | (simp [ei, eb, es, ec]; done)) | (constructor <;> first | exact rfl | (simp only [ei, eb, es, ec, List.map_append, List.flatMap_append, List.nil_append, List.append_nil, List.append_assoc]; done) | omega | (simp only [List.nil_append, List.length_append, List.length_cons, List.length_nil]; omega) | (simp [ei, eb, es, ec]; done)) | exact rfl | (simp only [ei, eb, es, ec, List.map_append, List.flatMap_append, List.nil_append, List.append_nil, List.append_assoc]; done) | omega | (simp only [List.nil_append, List.length_append, List.length_cons, List.length_nil]; omega) | (simp [ei, eb, es, ec]; done) | simp [ei, eb, es, ec])) ?_)
      first | exact trivial | exact rfl
    · refine if_st H (fun h220 H => ?_) (fun h220 H => ?_)
      · refine And.intro ⟨by decide⟩ ?_
        refine ob_ck H fun h221 H => ?_
        refine ob_ck H fun h222 H => ?_
        obtain ⟨v223, hv224, H⟩ := call_st H
        refine ⟨(v200, v223), ⟨hv224⟩, ⟨trivial⟩, ?_⟩
        refine And.intro ⟨rfl⟩ ?_
        have hfin := fin_st H
        repeat (refine And.intro (Ob.mk (by first | (rw [← hfin] <;> first | exact rfl | exact Iff.rfl | exact ⟨rfl, rfl⟩ | exact decide_eq_true_iff | (refine ⟨?_, ?_⟩ <;> first | exact rfl | (simp only [ei, eb, es, ec, List.map_append, List.flatMap_append, List.nil_append, List.append_nil, List.append_assoc]; done) | omega | (simp only [List.nil_append, List.length_append, List.length_cons, List.length_nil]; omega) | (simp [ei, eb, es, ec]; done)) | (constructor <;> first | exact rfl | (simp only [ei, eb, es, ec, List.map_append, List.flatMap_append, List.nil_append, List.append_nil, List.append_assoc]; done) | omega | (simp only [List.nil_append, List.length_append, List.length_cons, List.length_nil]; omega) | (simp [ei, eb, es, ec]; done)) | exact rfl | (simp only [ei, eb, es, ec, List.map_append, List.flatMap_append, List.nil_append, List.append_nil, List.append_assoc]; done) | omega | (simp only [List.nil_append, List.length_append, List.length_cons, List.length_nil]; omega) | (simp [ei, eb, es, ec]; done) | simp [ei, eb, es, ec]) | first | exact rfl | exact Iff.rfl | exact ⟨rfl, rfl⟩ | exact decide_eq_true_iff | (refine ⟨?_, ?_⟩ <;> first | exact rfl | (simp only [ei, eb, es, ec, List.map_append, List.flatMap_append, List.nil_append, List.append_nil, List.append_assoc]; done) | omega | (simp only [List.nil_append, List.length_append, List.length_cons, List.length_nil]; omega) | (simp [ei, eb, es, ec]; done)) | (constructor <;> first | exact rfl | (simp only [ei, eb, es, ec, List.map_append, List.flatMap_append, List.nil_append, List.append_nil, List.append_assoc]; done) | omega | (simp only [List.nil_append, List.length_append, List.length_cons, List.length_nil]; omega) | (simp [ei, eb, es, ec]; done)) | exact rfl | (simp only [ei, eb, es, ec, List.map_append, List.flatMap_append, List.nil_append, List.append_nil, List.append_assoc]; done) | omega | (simp only [List.nil_append, List.length_append, List.length_cons, List.length_nil]; omega) | (simp [ei, eb, es, ec]; done) | simp [ei, eb, es, ec])) ?_)
        first | exact trivial | exact rfl
      · refine if_st H (fun h225 H => ?_) (fun h225 H => ?_)
        · refine And.intro ⟨by decide⟩ ?_
          refine ob_ck H fun h226 H => ?_
          refine ob_ck H fun h227 H => ?_
          refine And.intro ⟨by decide⟩ ?_
          refine ob_ck H fun h228 H => ?_
          obtain ⟨v229, hv230, H⟩ := call_st H
          refine ⟨(Int.tdiv v200 64, v229), ⟨hv230⟩, ⟨trivial⟩, ?_⟩
          refine And.intro ⟨rfl⟩ ?_
          obtain ⟨v231, hv232, H⟩ := call_st H
          refine ⟨(v200, v231), ⟨hv232⟩, ⟨trivial⟩, ?_⟩
          refine And.intro ⟨rfl⟩ ?_
          have hfin := fin_st H
          repeat (refine And.intro (Ob.mk (by first | (rw [← hfin] <;> first | exact rfl | exact Iff.rfl | exact ⟨rfl, rfl⟩ | exact decide_eq_true_iff | (refine ⟨?_, ?_⟩ <;> first | exact rfl | (simp only [ei, eb, es, ec, List.map_append, List.flatMap_append, List.nil_append, List.append_nil, List.append_assoc]; done) | omega | (simp only [List.nil_append, List.length_append, List.length_cons, List.length_nil]; omega) | (simp [ei, eb, es, ec]; done)) | (constructor <;> first | exact rfl | (simp only [ei, eb, es, ec, List.map_append, List.flatMap_append, List.nil_append, List.append_nil, List.append_assoc]; done) | omega | (simp only [List.nil_append, List.length_append, List.length_cons, List.length_nil]; omega) | (simp [ei, eb, es, ec]; done)) | exact rfl | (simp only [ei, eb, es, ec, List.map_append, List.flatMap_append, List.nil_append, List.append_nil, List.append_assoc]; done) | omega | (simp only [List.nil_append, List.length_append, List.length_cons, List.length_nil]; omega) | (simp [ei, eb, es, ec]; done) | simp [ei, eb, es, ec]) | first | exact rfl | exact Iff.rfl | exact ⟨rfl, rfl⟩ | exact decide_eq_true_iff | (refine ⟨?_, ?_⟩ <;> first | exact rfl | (simp only [ei, eb, es, ec, List.map_append, List.flatMap_append, List.nil_append, List.append_nil, List.append_assoc]; done) | omega | (simp only [List.nil_append, List.length_append, List.length_cons, List.length_nil]; omega) | (simp [ei, eb, es, ec]; done)) | (constructor <;> first | exact rfl | (simp only [ei, eb, es, ec, List.map_append, List.flatMap_append, List.nil_append, List.append_nil, List.append_assoc]; done) | omega | (simp only [List.nil_append, List.length_append, List.length_cons, List.length_nil]; omega) | (simp [ei, eb, es, ec]; done)) | exact rfl | (simp only [ei, eb, es, ec, List.map_append, List.flatMap_append, List.nil_append, List.append_nil, List.append_assoc]; done) | omega | (simp only [List.nil_append, List.length_append, List.length_cons, List.length_nil]; omega) | (simp [ei, eb, es, ec]; done) | simp [ei, eb, es, ec])) ?_)
          first | exact trivial | exact rfl
        · refine And.intro ⟨by decide⟩ ?_
          refine ob_ck H fun h233 H => ?_
          refine ob_ck H fun h234 H => ?_
          refine And.intro ⟨by decide⟩ ?_
          refine ob_ck H fun h235 H => ?_
          obtain ⟨v236, hv237, H⟩ := call_st H
          refine ⟨(Int.tdiv v200 4096, v236), ⟨hv237⟩, ⟨trivial⟩, ?_⟩
          refine And.intro ⟨rfl⟩ ?_
          refine And.intro ⟨by decide⟩ ?_
          refine ob_ck H fun h238 H => ?_
          obtain ⟨v239, hv240, H⟩ := call_st H
          refine ⟨(Int.tdiv v200 64, v239), ⟨hv240⟩, ⟨trivial⟩, ?_⟩
          refine And.intro ⟨rfl⟩ ?_
          obtain ⟨v241, hv242, H⟩ := call_st H
          refine ⟨(v200, v241), ⟨hv242⟩, ⟨trivial⟩, ?_⟩
          refine And.intro ⟨rfl⟩ ?_
          have hfin := fin_st H
          repeat (refine And.intro (Ob.mk (by first | (rw [← hfin] <;> first | exact rfl | exact Iff.rfl | exact ⟨rfl, rfl⟩ | exact decide_eq_true_iff | (refine ⟨?_, ?_⟩ <;> first | exact rfl | (simp only [ei, eb, es, ec, List.map_append, List.flatMap_append, List.nil_append, List.append_nil, List.append_assoc]; done) | omega | (simp only [List.nil_append, List.length_append, List.length_cons, List.length_nil]; omega) | (simp [ei, eb, es, ec]; done)) | (constructor <;> first | exact rfl | (simp only [ei, eb, es, ec, List.map_append, List.flatMap_append, List.nil_append, List.append_nil, List.append_assoc]; done) | omega | (simp only [List.nil_append, List.length_append, List.length_cons, List.length_nil]; omega) | (simp [ei, eb, es, ec]; done)) | exact rfl | (simp only [ei, eb, es, ec, List.map_append, List.flatMap_append, List.nil_append, List.append_nil, List.append_assoc]; done) | omega | (simp only [List.nil_append, List.length_append, List.length_cons, List.length_nil]; omega) | (simp [ei, eb, es, ec]; done) | simp [ei, eb, es, ec]) | first | exact rfl | exact Iff.rfl | exact ⟨rfl, rfl⟩ | exact decide_eq_true_iff | (refine ⟨?_, ?_⟩ <;> first | exact rfl | (simp only [ei, eb, es, ec, List.map_append, List.flatMap_append, List.nil_append, List.append_nil, List.append_assoc]; done) | omega | (simp only [List.nil_append, List.length_append, List.length_cons, List.length_nil]; omega) | (simp [ei, eb, es, ec]; done)) | (constructor <;> first | exact rfl | (simp only [ei, eb, es, ec, List.map_append, List.flatMap_append, List.nil_append, List.append_nil, List.append_assoc]; done) | omega | (simp only [List.nil_append, List.length_append, List.length_cons, List.length_nil]; omega) | (simp [ei, eb, es, ec]; done)) | exact rfl | (simp only [ei, eb, es, ec, List.map_append, List.flatMap_append, List.nil_append, List.append_nil, List.append_assoc]; done) | omega | (simp only [List.nil_append, List.length_append, List.length_cons, List.length_nil]; omega) | (simp [ei, eb, es, ec]; done) | simp [ei, eb, es, ec])) ?_)
          first | exact trivial | exact rfl
noncomputable def e18 (n : Nat) (a0 : Int) : Option (List Int) :=
  jn (α := _) (β := Int) (fun k201 =>
      (e19 n a0).bind fun v202 =>
      if ¬ (v202 = true) then
        k201 65533
      else
        k201 a0
  ) (fun v200 =>
    if v200 < 128 then
      some ([IntKind.wrap .u8 v200])
    else
      (
        if v200 < 2048 then
          (
            ck (inR .i32 (Int.tdiv v200 64)) <|
            ck (inR .i32 (192 + (Int.tdiv v200 64))) <|
            (e63 n v200).bind fun v223 =>
            some ([IntKind.wrap .u8 (192 + (Int.tdiv v200 64)), v223])
          )
        else
          (
            if v200 < 65536 then
              (
                ck (inR .i32 (Int.tdiv v200 4096)) <|
                ck (inR .i32 (224 + (Int.tdiv v200 4096))) <|
                ck (inR .i32 (Int.tdiv v200 64)) <|
                (e63 n (Int.tdiv v200 64)).bind fun v229 =>
                (e63 n v200).bind fun v231 =>
                some ([IntKind.wrap .u8 (224 + (Int.tdiv v200 4096)), v229, v231])
              )
            else
              (
                ck (inR .i32 (Int.tdiv v200 262144)) <|
                ck (inR .i32 (240 + (Int.tdiv v200 262144))) <|
                ck (inR .i32 (Int.tdiv v200 4096)) <|
                (e63 n (Int.tdiv v200 4096)).bind fun v236 =>
                ck (inR .i32 (Int.tdiv v200 64)) <|
                (e63 n (Int.tdiv v200 64)).bind fun v239 =>
                (e63 n v200).bind fun v241 =>
                some ([IntKind.wrap .u8 (240 + (Int.tdiv v200 262144)), v236, v239, v241])
              )
          )
      )
  )
theorem e18_le (n : Nat) (a0 : Int) : Le (e18 n a0) (g18 a0) := by
  unfold e18 g18
  repeat' first | exact e19_le _ _ | exact e63_le _ _ | refine le_bind ?_ (fun _ => ?_) | refine le_ck ?_ | refine le_if ?_ ?_ | refine le_sm (fun _ => ?_) (fun _ => ?_) | refine le_jn (fun _ _ _ => ?_) (fun _ => ?_) | refine le_loop (fun _ => ?_) | with_reducible exact le_refl | apply_assumption

/-- placard/placardref01.length -/
noncomputable def g58 (a0 : Int) : Option (Int) :=
  if a0 < 128 then
    some 1
  else
    (
      jn (α := _) (β := Bool) (fun k261 =>
          if 194 ≤ a0 then
            k261 (decide (a0 < 224))
          else
            k261 false
      ) (fun v260 =>
        if v260 = true then
          some 2
        else
          (
            if 224 ≤ a0 then
              (
                if a0 < 240 then
                  some 3
                else
                  (
                    if 240 ≤ a0 then
                      (
                        if a0 < 245 then
                          some 4
                        else
                          some 0
                      )
                    else
                      some 0
                  )
              )
            else
              (
                if 240 ≤ a0 then
                  (
                    if a0 < 245 then
                      some 4
                    else
                      some 0
                  )
                else
                  some 0
              )
          )
      )
    )
noncomputable def k58 : Eng.CS := { f := 58, calm := true, more := 0, ι := Int × Int, ok := fun i => g58 i.1 = some i.2, rds := fun _ => [], args := fun i => [.w (.v (.int .u8 (i.1)))], res := fun i => .v (.int .i64 (i.2)) }
set_option maxRecDepth 8000 in
set_option maxHeartbeats 4000000 in
theorem k58_ok : CalmOk Try.prog k58 := by
  refine R.calmspec Try.func58 nm58 rfl ?_
  rintro ⟨a0, r⟩ hok q _ args hargs
  match args, hargs with
  | [_], hargs =>
  obtain ⟨rfl, _⟩ := hargs
  refine ⟨envC [] false [(58, 4)], 6, envC_ok (css_nil), rfl, (by intro x hx; simp only [List.mem_cons, List.not_mem_nil, or_false] at hx; rcases hx with rfl <;> rfl), ?_⟩
  have H : Gives (g58 a0) (fun a => a = r) := ⟨r, hok, rfl⟩
  unfold g58 at H
  clear hok
  refine if_st H (fun h258 H => ?_) (fun h258 H => ?_)
  · have hfin := fin_st H
    repeat (refine And.intro (Ob.mk (by first | (rw [← hfin] <;> first | exact rfl | exact Iff.rfl | exact ⟨rfl, rfl⟩ | exact decide_eq_true_iff | (refine ⟨?_, ?_⟩ <;> first | exact rfl | (simp only [ei, eb, es, ec, List.map_append, List.flatMap_append, List.nil_append, List.append_nil, List.append_assoc]; done) | omega | (simp only [List.nil_append, List.length_append, List.length_cons, List.length_nil]; omega) | (simp [ei, eb, es, ec]; done)) | (constructor <;> first | exact rfl | (simp only [ei, eb, es, ec, List.map_append, List.flatMap_append, List.nil_append, List.append_nil, List.append_assoc]; done) | omega | (simp only [List.nil_append, List.length_append, List.length_cons, List.length_nil]; omega) | (simp [ei, eb, es, ec]; done)) | exact rfl | (simp only [ei, eb, es, ec, List.map_append, List.flatMap_append, List.nil_append, List.append_nil, List.append_assoc]; done) | omega | (simp only [List.nil_append, List.length_append, List.length_cons, List.length_nil]; omega) | (simp [ei, eb, es, ec]; done) | simp [ei, eb, es, ec]) | first | exact rfl | exact Iff.rfl | exact ⟨rfl, rfl⟩ | exact decide_eq_true_iff | (refine ⟨?_, ?_⟩ <;> first | exact rfl | (simp only [ei, eb, es, ec, List.map_append, List.flatMap_append, List.nil_append, List.append_nil, List.append_assoc]; done) | omega | (simp only [List.nil_append, List.length_append, List.length_cons, List.length_nil]; omega) | (simp [ei, eb, es, ec]; done)) | (constructor <;> first | exact rfl | (simp only [ei, eb, es, ec, List.map_append, List.flatMap_append, List.nil_append, List.append_nil, List.append_assoc]; done) | omega | (simp only [List.nil_append, List.length_append, List.length_cons, List.length_nil]; omega) | (simp [ei, eb, es, ec]; done)) | exact rfl | (simp only [ei, eb, es, ec, List.map_append, List.flatMap_append, List.nil_append, List.append_nil, List.append_assoc]; done) | omega | (simp only [List.nil_append, List.length_append, List.length_cons, List.length_nil]; omega) | (simp [ei, eb, es, ec]; done) | simp [ei, eb, es, ec])) ?_)
    first | exact trivial | exact rfl
  · refine R.cut_fam H 12 [0] [] (fun v260 => [(6, bS v260)]) (fun v260 => []) [] 0 (fun H => ?_)
    refine And.intro ?_ ?_
    · refine if_st H (fun h262 H => ?_) (fun h262 H => ?_)
      · refine ⟨(decide (a0 < 224)), ⟨H⟩, ⟨rfl⟩, ?_⟩
        repeat (refine And.intro (Ob.mk (by first | exact rfl | exact Iff.rfl | exact ⟨rfl, rfl⟩ | exact decide_eq_true_iff | (refine ⟨?_, ?_⟩ <;> first | exact rfl | (simp only [ei, eb, es, ec, List.map_append, List.flatMap_append, List.nil_append, List.append_nil, List.append_assoc]; done) | omega | (simp only [List.nil_append, List.length_append, List.length_cons, List.length_nil]; omega) | (simp [ei, eb, es, ec]; done)) | (constructor <;> first | exact rfl | (simp only [ei, eb, es, ec, List.map_append, List.flatMap_append, List.nil_append, List.append_nil, List.append_assoc]; done) | omega | (simp only [List.nil_append, List.length_append, List.length_cons, List.length_nil]; omega) | (simp [ei, eb, es, ec]; done)) | exact rfl | (simp only [ei, eb, es, ec, List.map_append, List.flatMap_append, List.nil_append, List.append_nil, List.append_assoc]; done) | omega | (simp only [List.nil_append, List.length_append, List.length_cons, List.length_nil]; omega) | (simp [ei, eb, es, ec]; done) | simp [ei, eb, es, ec])) ?_)
        first | exact trivial | exact rfl
      · refine ⟨false, ⟨H⟩, ⟨rfl⟩, ?_⟩
        repeat (refine And.intro (Ob.mk (by first | exact rfl | exact Iff.rfl | exact ⟨rfl, rfl⟩ | exact decide_eq_true_iff | (refine ⟨?_, ?_⟩ <;> first | exact rfl | (simp only [ei, eb, es, ec, List.map_append, List.flatMap_append, List.nil_append, List.append_nil, List.append_assoc]; done) | omega | (simp only [List.nil_append, List.length_append, List.length_cons, List.length_nil]; omega) | (simp [ei, eb, es, ec]; done)) | (constructor <;> first | exact rfl | (simp only [ei, eb, es, ec, List.map_append, List.flatMap_append, List.nil_append, List.append_nil, List.append_assoc]; done) | omega | (simp only [List.nil_append, List.length_append, List.length_cons, List.length_nil]; omega) | (simp [ei, eb, es, ec]; done)) | exact rfl | (simp only [ei, eb, es, ec, List.map_append, List.flatMap_append, List.nil_append, List.append_nil, List.append_assoc]; done) | omega | (simp only [List.nil_append, List.length_append, List.length_cons, List.length_nil]; omega) | (simp [ei, eb, es, ec]; done) | simp [ei, eb, es, ec])) ?_)
        first | exact trivial | exact rfl
    · intro v260 H
      refine if_st H (fun h263 H => ?_) (fun h263 H => ?_)
      · have hfin := fin_st H
        repeat (refine And.intro (Ob.mk (by first | (rw [← hfin] <;> first | exact rfl | exact Iff.rfl | exact ⟨rfl, rfl⟩ | exact decide_eq_true_iff | (refine ⟨?_, ?_⟩ <;> first | exact rfl | (simp only [ei, eb, es, ec, List.map_append, List.flatMap_append, List.nil_append, List.append_nil, List.append_assoc]; done) | omega | (simp only [List.nil_append, List.length_append, List.length_cons, List.length_nil]; omega) | (simp [ei, eb, es, ec]; done)) | (constructor <;> first | exact rfl | (simp only [ei, eb, es, ec, List.map_append, List.flatMap_append, List.nil_append, List.append_nil, List.append_assoc]; done) | omega | (simp only [List.nil_append, List.length_append, List.length_cons, List.length_nil]; omega) | (simp [ei, eb, es, ec]; done)) | exact rfl | (simp only [ei, eb, es, ec, List.map_append, List.flatMap_append, List.nil_append, List.append_nil, List.append_assoc]; done) | omega | (simp only [List.nil_append, List.length_append, List.length_cons, List.length_nil]; omega) | (simp [ei, eb, es, ec]; done) | simp [ei, eb, es, ec]) | first | exact rfl | exact Iff.rfl | exact ⟨rfl, rfl⟩ | exact decide_eq_true_iff | (refine ⟨?_, ?_⟩ <;> first | exact rfl | (simp only [ei, eb, es, ec, List.map_append, List.flatMap_append, List.nil_append, List.append_nil, List.append_assoc]; done) | omega | (simp only [List.nil_append, List.length_append, List.length_cons, List.length_nil]; omega) | (simp [ei, eb, es, ec]; done)) | (constructor <;> first | exact rfl | (simp only [ei, eb, es, ec, List.map_append, List.flatMap_append, List.nil_append, List.append_nil, List.append_assoc]; done) | omega | (simp only [List.nil_append, List.length_append, List.length_cons, List.length_nil]; omega) | (simp [ei, eb, es, ec]; done)) | exact rfl | (simp only [ei, eb, es, ec, List.map_append, List.flatMap_append, List.nil_append, List.append_nil, List.append_assoc]; done) | omega | (simp only [List.nil_append, List.length_append, List.length_cons, List.length_nil]; omega) | (simp [ei, eb, es, ec]; done) | simp [ei, eb, es, ec])) ?_)
        first | exact trivial | exact rfl
      · refine if_st H (fun h264 H => ?_) (fun h264 H => ?_)
        · refine if_st H (fun h265 H => ?_) (fun h265 H => ?_)
          · have hfin := fin_st H
            repeat (refine And.intro (Ob.mk (by first | (rw [← hfin] <;> first | exact rfl | exact Iff.rfl | exact ⟨rfl, rfl⟩ | exact decide_eq_true_iff | (refine ⟨?_, ?_⟩ <;> first | exact rfl | (simp only [ei, eb, es, ec, List.map_append, List.flatMap_append, List.nil_append, List.append_nil, List.append_assoc]; done) | omega | (simp only [List.nil_append, List.length_append, List.length_cons, List.length_nil]; omega) | (simp [ei, eb, es, ec]; done)) | (constructor <;> first | exact rfl | (simp only [ei, eb, es, ec, List.map_append, List.flatMap_append, List.nil_append, List.append_nil, List.append_assoc]; done) | omega | (simp only [List.nil_append, List.length_append, List.length_cons, List.length_nil]; omega) | (simp [ei, eb, es, ec]; done)) | exact rfl | (simp only [ei, eb, es, ec, List.map_append, List.flatMap_append, List.nil_append, List.append_nil, List.append_assoc]; done) | omega | (simp only [List.nil_append, List.length_append, List.length_cons, List.length_nil]; omega) | (simp [ei, eb, es, ec]; done) | simp [ei, eb, es, ec]) | first | exact rfl | exact Iff.rfl | exact ⟨rfl, rfl⟩ | exact decide_eq_true_iff | (refine ⟨?_, ?_⟩ <;> first | exact rfl | (simp only [ei, eb, es, ec, List.map_append, List.flatMap_append, List.nil_append, List.append_nil, List.append_assoc]; done) | omega | (simp only [List.nil_append, List.length_append, List.length_cons, List.length_nil]; omega) | (simp [ei, eb, es, ec]; done)) | (constructor <;> first | exact rfl | (simp only [ei, eb, es, ec, List.map_append, List.flatMap_append, List.nil_append, List.append_nil, List.append_assoc]; done) | omega | (simp only [List.nil_append, List.length_append, List.length_cons, List.length_nil]; omega) | (simp [ei, eb, es, ec]; done)) | exact rfl | (simp only [ei, eb, es, ec, List.map_append, List.flatMap_append, List.nil_append, List.append_nil, List.append_assoc]; done) | omega | (simp only [List.nil_append, List.length_append, List.length_cons, List.length_nil]; omega) | (simp [ei, eb, es, ec]; done) | simp [ei, eb, es, ec])) ?_)
            first | exact trivial | exact rfl
          · refine if_st H (fun h266 H => ?_) (fun h266 H => ?_)
            · refine if_st H (fun h267 H => ?_) (fun h267 H => ?_)
              · have hfin := fin_st H
                repeat (refine And.intro (Ob.mk (by first | (rw [← hfin] <;> first | exact rfl | exact Iff.rfl | exact ⟨rfl, rfl⟩ | exact decide_eq_true_iff | (refine ⟨?_, ?_⟩ <;> first | exact rfl | (simp only [ei, eb, es, ec, List.map_append, List.flatMap_append, List.nil_append, List.append_nil, List.append_assoc]; done) | omega | (simp only [List.nil_append, List.length_append, List.length_cons, List.length_nil]; omega) | (simp [ei, eb, es, ec]; done)) | (constructor <;> first | exact rfl | (simp only [ei, eb, es, ec, List.map_append, List.flatMap_append, List.nil_append, List.append_nil, List.append_assoc]; done) | omega | (simp only [List.nil_append, List.length_append, List.length_cons, List.length_nil]; omega) | (simp [ei, eb, es, ec]; done)) | exact rfl | (simp only [ei, eb, es, ec, List.map_append, List.flatMap_append, List.nil_append, List.append_nil, List.append_assoc]; done) | omega | (simp only [List.nil_append, List.length_append, List.length_cons, List.length_nil]; omega) | (simp [ei, eb, es, ec]; done) | simp [ei, eb, es, ec]) | first | exact rfl | exact Iff.rfl | exact ⟨rfl, rfl⟩ | exact decide_eq_true_iff | (refine ⟨?_, ?_⟩ <;> first | exact rfl | (simp only [ei, eb, es, ec, List.map_append, List.flatMap_append, List.nil_append, List.append_nil, List.append_assoc]; done) | omega | (simp only [List.nil_append, List.length_append, List.length_cons, List.length_nil]; omega) | (simp [ei, eb, es, ec]; done)) | (constructor <;> first | exact rfl | (simp only [ei, eb, es, ec, List.map_append, List.flatMap_append, List.nil_append, List.append_nil, List.append_assoc]; done) | omega | (simp only [List.nil_append, List.length_append, List.length_cons, List.length_nil]; omega) | (simp [ei, eb, es, ec]; done)) | exact rfl | (simp only [ei, eb, es, ec, List.map_append, List.flatMap_append, List.nil_append, List.append_nil, List.append_assoc]; done) | omega | (simp only [List.nil_append, List.length_append, List.length_cons, List.length_nil]; omega) | (simp [ei, eb, es, ec]; done) | simp [ei, eb, es, ec])) ?_)
                first | exact trivial | exact rfl
              · have hfin := fin_st H
                repeat (refine And.intro (Ob.mk (by first | (rw [← hfin] <;> first | exact rfl | exact Iff.rfl | exact ⟨rfl, rfl⟩ | exact decide_eq_true_iff | (refine ⟨?_, ?_⟩ <;> first | exact rfl | (simp only [ei, eb, es, ec, List.map_append, List.flatMap_append, List.nil_append, List.append_nil, List.append_assoc]; done) | omega | (simp only [List.nil_append, List.length_append, List.length_cons, List.length_nil]; omega) | (simp [ei, eb, es, ec]; done)) | (constructor <;> first | exact rfl | (simp only [ei, eb, es, ec, List.map_append, List.flatMap_append, List.nil_append, List.append_nil, List.append_assoc]; done) | omega | (simp only [List.nil_append, List.length_append, List.length_cons, List.length_nil]; omega) | (simp [ei, eb, es, ec]; done)) | exact rfl | (simp only [ei, eb, es, ec, List.map_append, List.flatMap_append, List.nil_append, List.append_nil, List.append_assoc]; done) | omega | (simp only [List.nil_append, List.length_append, List.length_cons, List.length_nil]; omega) | (simp [ei, eb, es, ec]; done) | simp [ei, eb, es, ec]) | first | exact rfl | exact Iff.rfl | exact ⟨rfl, rfl⟩ | exact decide_eq_true_iff | (refine ⟨?_, ?_⟩ <;> first | exact rfl | (simp only [ei, eb, es, ec, List.map_append, List.flatMap_append, List.nil_append, List.append_nil, List.append_assoc]; done) | omega | (simp only [List.nil_append, List.length_append, List.length_cons, List.length_nil]; omega) | (simp [ei, eb, es, ec]; done)) | (constructor <;> first | exact rfl | (simp only [ei, eb, es, ec, List.map_append, List.flatMap_append, List.nil_append, List.append_nil, List.append_assoc]; done) | omega | (simp only [List.nil_append, List.length_append, List.length_cons, List.length_nil]; omega) | (simp [ei, eb, es, ec]; done)) | exact rfl | (simp only [ei, eb, es, ec, List.map_append, List.flatMap_append, List.nil_append, List.append_nil, List.append_assoc]; done) | omega | (simp only [List.nil_append, List.length_append, List.length_cons, List.length_nil]; omega) | (simp [ei, eb, es, ec]; done) | simp [ei, eb, es, ec])) ?_)
                first | exact trivial | exact rfl
            · have hfin := fin_st H
              repeat (refine And.intro (Ob.mk (by first | (rw [← hfin] <;> first | exact rfl | exact Iff.rfl | exact ⟨rfl, rfl⟩ | exact decide_eq_true_iff | (refine ⟨?_, ?_⟩ <;> first | exact rfl | (simp only [ei, eb, es, ec, List.map_append, List.flatMap_append, List.nil_append, List.append_nil, List.append_assoc]; done) | omega | (simp only [List.nil_append, List.length_append, List.length_cons, List.length_nil]; omega) | (simp [ei, eb, es, ec]; done)) | (constructor <;> first | exact rfl | (simp only [ei, eb, es, ec, List.map_append, List.flatMap_append, List.nil_append, List.append_nil, List.append_assoc]; done) | omega | (simp only [List.nil_append, List.length_append, List.length_cons, List.length_nil]; omega) | (simp [ei, eb, es, ec]; done)) | exact rfl | (simp only [ei, eb, es, ec, List.map_append, List.flatMap_append, List.nil_append, List.append_nil, List.append_assoc]; done) | omega | (simp only [List.nil_append, List.length_append, List.length_cons, List.length_nil]; omega) | (simp [ei, eb, es, ec]; done) | simp [ei, eb, es, ec]) | first | exact rfl | exact Iff.rfl | exact ⟨rfl, rfl⟩ | exact decide_eq_true_iff | (refine ⟨?_, ?_⟩ <;> first | exact rfl | (simp only [ei, eb, es, ec, List.map_append, List.flatMap_append, List.nil_append, List.append_nil, List.append_assoc]; done) | omega | (simp only [List.nil_append, List.length_append, List.length_cons, List.length_nil]; omega) | (simp [ei, eb, es, ec]; done)) | (constructor <;> first | exact rfl | (simp only [ei, eb, es, ec, List.map_append, List.flatMap_append, List.nil_append, List.append_nil, List.append_assoc]; done) | omega | (simp only [List.nil_append, List.length_append, List.length_cons, List.length_nil]; omega) | (simp [ei, eb, es, ec]; done)) | exact rfl | (simp only [ei, eb, es, ec, List.map_append, List.flatMap_append, List.nil_append, List.append_nil, List.append_assoc]; done) | omega | (simp only [List.nil_append, List.length_append, List.length_cons, List.length_nil]; omega) | (simp [ei, eb, es, ec]; done) | simp [ei, eb, es, ec])) ?_)
              first | exact trivial | exact rfl
        · refine if_st H (fun h268 H => ?_) (fun h268 H => ?_)
          · refine if_st H (fun h269 H => ?_) (fun h269 H => ?_)
            · have hfin := fin_st H
              repeat (refine And.intro (Ob.mk (by first | (rw [← hfin] <;> first | exact rfl | exact Iff.rfl | exact ⟨rfl, rfl⟩ | exact decide_eq_true_iff | (refine ⟨?_, ?_⟩ <;> first | exact rfl | (simp only [ei, eb, es, ec, List.map_append, List.flatMap_append, List.nil_append, List.append_nil, List.append_assoc]; done) | omega | (simp only [List.nil_append, List.length_append, List.length_cons, List.length_nil]; omega) | (simp [ei, eb, es, ec]; done)) | (constructor <;> first | exact rfl | (simp only [ei, eb, es, ec, List.map_append, List.flatMap_append, List.nil_append, List.append_nil, List.append_assoc]; done) | omega | (simp only [List.nil_append, List.length_append, List.length_cons, List.length_nil]; omega) | (simp [ei, eb, es, ec]; done)) | exact rfl | (simp only [ei, eb, es, ec, List.map_append, List.flatMap_append, List.nil_append, List.append_nil, List.append_assoc]; done) | omega | (simp only [List.nil_append, List.length_append, List.length_cons, List.length_nil]; omega) | (simp [ei, eb, es, ec]; done) | simp [ei, eb, es, ec]) | first | exact rfl | exact Iff.rfl | exact ⟨rfl, rfl⟩ | exact decide_eq_true_iff | (refine ⟨?_, ?_⟩ <;> first | exact rfl | (simp only [ei, eb, es, ec, List.map_append, List.flatMap_append, List.nil_append, List.append_nil, List.append_assoc]; done) | omega | (simp only [List.nil_append, List.length_append, List.length_cons, List.length_nil]; omega) | (simp [ei, eb, es, ec]; done)) | (constructor <;> first | exact rfl | (simp only [ei, eb, es, ec, List.map_append, List.flatMap_append, List.nil_append, List.append_nil, List.append_assoc]; done) | omega | (simp only [List.nil_append, List.length_append, List.length_cons, List.length_nil]; omega) | (simp [ei, eb, es, ec]; done)) | exact rfl | (simp only [ei, eb, es, ec, List.map_append, List.flatMap_append, List.nil_append, List.append_nil, List.append_assoc]; done) | omega | (simp only [List.nil_append, List.length_append, List.length_cons, List.length_nil]; omega) | (simp [ei, eb, es, ec]; done) | simp [ei, eb, es, ec])) ?_)
              first | exact trivial | exact rfl
            · have hfin := fin_st H
              repeat (refine And.intro (Ob.mk (by first | (rw [← hfin] <;> first | exact rfl | exact Iff.rfl | exact ⟨rfl, rfl⟩ | exact decide_eq_true_iff | (refine ⟨?_, ?_⟩ <;> first | exact rfl | (simp only [ei, eb, es, ec, List.map_append, List.flatMap_append, List.nil_append, List.append_nil, List.append_assoc]; done) | omega | (simp only [List.nil_append, List.length_append, List.length_cons, List.length_nil]; omega) | (simp [ei, eb, es, ec]; done)) | (constructor <;> first | exact rfl | (simp only [ei, eb, es, ec, List.map_append, List.flatMap_append, List.nil_append, List.append_nil, List.append_assoc]; done) | omega | (simp only [List.nil_append, List.length_append, List.length_cons, List.length_nil]; omega) | (simp [ei, eb, es, ec]; done)) | exact rfl | (simp only [ei, eb, es, ec, List.map_append, List.flatMap_append, List.nil_append, List.append_nil, List.append_assoc]; done) | omega | (simp only [List.nil_append, List.length_append, List.length_cons, List.length_nil]; omega) | (simp [ei, eb, es, ec]; done) | simp [ei, eb, es, ec]) | first | exact rfl | exact Iff.rfl | exact ⟨rfl, rfl⟩ | exact decide_eq_true_iff | (refine ⟨?_, ?_⟩ <;> first | exact rfl | (simp only [ei, eb, es, ec, List.map_append, List.flatMap_append, List.nil_append, List.append_nil, List.append_assoc]; done) | omega | (simp only [List.nil_append, List.length_append, List.length_cons, List.length_nil]; omega) | (simp [ei, eb, es, ec]; done)) | (constructor <;> first | exact rfl | (simp only [ei, eb, es, ec, List.map_append, List.flatMap_append, List.nil_append, List.append_nil, List.append_assoc]; done) | omega | (simp only [List.nil_append, List.length_append, List.length_cons, List.length_nil]; omega) | (simp [ei, eb, es, ec]; done)) | exact rfl | (simp only [ei, eb, es, ec, List.map_append, List.flatMap_append, List.nil_append, List.append_nil, List.append_assoc]; done) | omega | (simp only [List.nil_append, List.length_append, List.length_cons, List.length_nil]; omega) | (simp [ei, eb, es, ec]; done) | simp [ei, eb, es, ec])) ?_)
              first | exact trivial | exact rfl
          · have hfin := fin_st H
            repeat (refine And.intro (Ob.mk (by first | (rw [← hfin] <;> first | exact rfl | exact Iff.rfl | exact ⟨rfl, rfl⟩ | exact decide_eq_true_iff | (refine ⟨?_, ?_⟩ <;> first | exact rfl | (simp only [ei, eb, es, ec, List.map_append, List.flatMap_append, List.nil_append, List.append_nil, List.append_assoc]; done) | omega | (simp only [List.nil_append, List.length_append, List.length_cons, List.length_nil]; omega) | (simp [ei, eb, es, ec]; done)) | (constructor <;> first | exact rfl | (simp only [ei, eb, es, ec, List.map_append, List.flatMap_append, List.nil_append, List.append_nil, List.append_assoc]; done) | omega | (simp only [List.nil_append, List.length_append, List.length_cons, List.length_nil]; omega) | (simp [ei, eb, es, ec]; done)) | exact rfl | (simp only [ei, eb, es, ec, List.map_append, List.flatMap_append, List.nil_append, List.append_nil, List.append_assoc]; done) | omega | (simp only [List.nil_append, List.length_append, List.length_cons, List.length_nil]; omega) | (simp [ei, eb, es, ec]; done) | simp [ei, eb, es, ec]) | first | exact rfl | exact Iff.rfl | exact ⟨rfl, rfl⟩ | exact decide_eq_true_iff | (refine ⟨?_, ?_⟩ <;> first | exact rfl | (simp only [ei, eb, es, ec, List.map_append, List.flatMap_append, List.nil_append, List.append_nil, List.append_assoc]; done) | omega | (simp only [List.nil_append, List.length_append, List.length_cons, List.length_nil]; omega) | (simp [ei, eb, es, ec]; done)) | (constructor <;> first | exact rfl | (simp only [ei, eb, es, ec, List.map_append, List.flatMap_append, List.nil_append, List.append_nil, List.append_assoc]; done) | omega | (simp only [List.nil_append, List.length_append, List.length_cons, List.length_nil]; omega) | (simp [ei, eb, es, ec]; done)) | exact rfl | (simp only [ei, eb, es, ec, List.map_append, List.flatMap_append, List.nil_append, List.append_nil, List.append_assoc]; done) | omega | (simp only [List.nil_append, List.length_append, List.length_cons, List.length_nil]; omega) | (simp [ei, eb, es, ec]; done) | simp [ei, eb, es, ec])) ?_)
            first | exact trivial | exact rfl
noncomputable def e58 (n : Nat) (a0 : Int) : Option (Int) :=
  if a0 < 128 then
    some 1
  else
    (
      jn (α := _) (β := Bool) (fun k261 =>
          if 194 ≤ a0 then
            k261 (decide (a0 < 224))
          else
            k261 false
      ) (fun v260 =>
        if v260 = true then
          some 2
        else
          (
            if 224 ≤ a0 then
              (
                if a0 < 240 then
                  some 3
                else
                  (
                    if 240 ≤ a0 then
                      (
                        if a0 < 245 then
                          some 4
                        else
                          some 0
                      )
                    else
                      some 0
                  )
              )
            else
              (
                if 240 ≤ a0 then
                  (
                    if a0 < 245 then
                      some 4
                    else
                      some 0
                  )
                else
                  some 0
              )
          )
      )
    )
theorem e58_le (n : Nat) (a0 : Int) : Le (e58 n a0) (g58 a0) := by
  unfold e58 g58
  repeat' first | refine le_bind ?_ (fun _ => ?_) | refine le_ck ?_ | refine le_if ?_ ?_ | refine le_sm (fun _ => ?_) (fun _ => ?_) | refine le_jn (fun _ _ _ => ?_) (fun _ => ?_) | refine le_loop (fun _ => ?_) | with_reducible exact le_refl | apply_assumption

/-- placard/placardref01.number -/
noncomputable def g60 (a0 : List Int) : Option (Int) :=
  if ((a0.length : Nat) : Int) < 2 then
    (
      ck (0 ≤ (0 : Int) ∧ 0 < ((a0.length : Nat) : Int)) <|
      ck (inR .i32 (a0.getD (0 : Int).toNat 0)) <|
      some (a0.getD (0 : Int).toNat 0)
    )
  else
    (
      if 4 < ((a0.length : Nat) : Int) then
        (
          ck (0 ≤ (0 : Int) ∧ 0 < ((a0.length : Nat) : Int)) <|
          ck (inR .i32 (a0.getD (0 : Int).toNat 0)) <|
          some (a0.getD (0 : Int).toNat 0)
        )
      else
        (
          ck (0 ≤ (0 : Int) ∧ 0 < ((a0.length : Nat) : Int)) <|
          ck (inR .i64 (a0.getD (0 : Int).toNat 0)) <|
          ck (0 ≤ ((a0.length : Nat) : Int) ∧ ((a0.length : Nat) : Int) < ((5 : Nat) : Int)) <|
          ck (inR .i64 ((a0.getD (0 : Int).toNat 0) - (([0, 0, 192, 224, 240]).getD ((a0.length : Nat) : Int).toNat 0))) <|
          jn (α := _) (β := Int) (fun k317 =>
              (loopO (σ := Int × Int) (ρ := Int) (fun s320 =>
                  if s320.2 < ((a0.length : Nat) : Int) then
                    (
                      ck (inR .i32 (s320.1 * 64)) <|
                      ck (0 ≤ s320.2 ∧ s320.2 < ((a0.length : Nat) : Int)) <|
                      ck (inR .i32 (Int.tmod (a0.getD s320.2.toNat 0) 64)) <|
                      ck (inR .i32 ((s320.1 * 64) + (Int.tmod (a0.getD s320.2.toNat 0) 64))) <|
                      ck (inR .i64 (s320.2 + 1)) <|
                      some (.go ((s320.1 * 64) + (Int.tmod (a0.getD s320.2.toNat 0) 64), s320.2 + 1))
                    )
                  else
                    some (.out s320.1)
                ) (IntKind.wrap .i32 ((a0.getD (0 : Int).toNat 0) - (([0, 0, 192, 224, 240]).getD ((a0.length : Nat) : Int).toNat 0)), 1)).bind fun o334 =>
                k317 o334
          ) (fun v316 =>
            some v316
          )
        )
    )
noncomputable def k60 : Eng.CS := { f := 60, calm := true, more := 0, ι := (List Int) × Int, ok := fun i => g60 i.1 = some i.2, rds := fun _ => [], args := fun i => [.sl 1 i.1.length (ei .u8 i.1)], res := fun i => .v (.int .i32 (i.2)) }
set_option maxRecDepth 8000 in
set_option maxHeartbeats 4000000 in
theorem k60_ok : CalmOk Try.prog k60 := by
  refine R.calmspec Try.func60 nm60 rfl ?_
  rintro ⟨a0, r⟩ hok q _ args hargs
  match args, hargs with
  | [_], hargs =>
  obtain ⟨⟨A0, cp0, rfl, hc0, _, hR0⟩, _⟩ := hargs
  refine ⟨envC [] false [(60, 9)], 6, envC_ok (css_nil), rfl, (by intro x hx; simp only [List.mem_cons, List.not_mem_nil, or_false] at hx; rcases hx with rfl <;> rfl), ?_⟩
  have H : Gives (g60 a0) (fun a => a = r) := ⟨r, hok, rfl⟩
  unfold g60 at H
  clear hok
  refine if_st H (fun h277 H => ?_) (fun h277 H => ?_)
  · refine ob_ix hR0 (fun h => ei0 h) H fun h278 H => ?_
    refine ld_int (e := a0.getD (0 : Int).toNat 0) (rd_get hR0 (ei_get (l := a0) (tn h278))) ?_
    refine ob_ck H fun h279 H => ?_
    have hfin := fin_st H
    repeat (refine And.intro (Ob.mk (by first | (rw [← hfin] <;> first | exact rfl | exact Iff.rfl | exact ⟨rfl, rfl⟩ | exact decide_eq_true_iff | (refine ⟨?_, ?_⟩ <;> first | exact rfl | (simp only [ei, eb, es, ec, List.map_append, List.flatMap_append, List.nil_append, List.append_nil, List.append_assoc]; done) | omega | (simp only [List.nil_append, List.length_append, List.length_cons, List.length_nil]; omega) | (simp [ei, eb, es, ec]; done)) | (constructor <;> first | exact rfl | (simp only [ei, eb, es, ec, List.map_append, List.flatMap_append, List.nil_append, List.append_nil, List.append_assoc]; done) | omega | (simp only [List.nil_append, List.length_append, List.length_cons, List.length_nil]; omega) | (simp [ei, eb, es, ec]; done)) | exact rfl | (simp only [ei, eb, es, ec, List.map_append, List.flatMap_append, List.nil_append, List.append_nil, List.append_assoc]; done) | omega | (simp only [List.nil_append, List.length_append, List.length_cons, List.length_nil]; omega) | (simp [ei, eb, es, ec]; done) | simp [ei, eb, es, ec]) | first | exact rfl | exact Iff.rfl | exact ⟨rfl, rfl⟩ | exact decide_eq_true_iff | (refine ⟨?_, ?_⟩ <;> first | exact rfl | (simp only [ei, eb, es, ec, List.map_append, List.flatMap_append, List.nil_append, List.append_nil, List.append_assoc]; done) | omega | (simp only [List.nil_append, List.length_append, List.length_cons, List.length_nil]; omega) | (simp [ei, eb, es, ec]; done)) | (constructor <;> first | exact rfl | (simp only [ei, eb, es, ec, List.map_append, List.flatMap_append, List.nil_append, List.append_nil, List.append_assoc]; done) | omega | (simp only [List.nil_append, List.length_append, List.length_cons, List.length_nil]; omega) | (simp [ei, eb, es, ec]; done)) | exact rfl | (simp only [ei, eb, es, ec, List.map_append, List.flatMap_append, List.nil_append, List.append_nil, List.append_assoc]; done) | omega | (simp only [List.nil_append, List.length_append, List.length_cons, List.length_nil]; omega) | (simp [ei, eb, es, ec]; done) | simp [ei, eb, es, ec])) ?_)
    first | exact trivial | exact rfl
  · refine if_st H (fun h280 H => ?_) (fun h280 H => ?_)
    · refine ob_ix hR0 (fun h => ei0 h) H fun h281 H => ?_
      refine ld_int (e := a0.getD (0 : Int).toNat 0) (rd_get hR0 (ei_get (l := a0) (tn h281))) ?_
      refine ob_ck H fun h282 H => ?_
      have hfin := fin_st H
      repeat (refine And.intro (Ob.mk (by first | (rw [← hfin] <;> first | exact rfl | exact Iff.rfl | exact ⟨rfl, rfl⟩ | exact decide_eq_true_iff | (refine ⟨?_, ?_⟩ <;> first | exact rfl | (simp only [ei, eb, es, ec, List.map_append, List.flatMap_append, List.nil_append, List.append_nil, List.append_assoc]; done) | omega | (simp only [List.nil_append, List.length_append, List.length_cons, List.length_nil]; omega) | (simp [ei, eb, es, ec]; done)) | (constructor <;> first | exact rfl | (simp only [ei, eb, es, ec, List.map_append, List.flatMap_append, List.nil_append, List.append_nil, List.append_assoc]; done) | omega | (simp only [List.nil_append, List.length_append, List.length_cons, List.length_nil]; omega) | (simp [ei, eb, es, ec]; done)) | exact rfl | (simp only [ei, eb, es, ec, List.map_append, List.flatMap_append, List.nil_append, List.append_nil, List.append_assoc]; done) | omega | (simp only [List.nil_append, List.length_append, List.length_cons, List.length_nil]; omega) | (simp [ei, eb, es, ec]; done) | simp [ei, eb, es, ec]) | first | exact rfl | exact Iff.rfl | exact ⟨rfl, rfl⟩ | exact decide_eq_true_iff | (refine ⟨?_, ?_⟩ <;> first | exact rfl | (simp only [ei, eb, es, ec, List.map_append, List.flatMap_append, List.nil_append, List.append_nil, List.append_assoc]; done) | omega | (simp only [List.nil_append, List.length_append, List.length_cons, List.length_nil]; omega) | (simp [ei, eb, es, ec]; done)) | (constructor <;> first | exact rfl | (simp only [ei, eb, es, ec, List.map_append, List.flatMap_append, List.nil_append, List.append_nil, List.append_assoc]; done) | omega | (simp only [List.nil_append, List.length_append, List.length_cons, List.length_nil]; omega) | (simp [ei, eb, es, ec]; done)) | exact rfl | (simp only [ei, eb, es, ec, List.map_append, List.flatMap_append, List.nil_append, List.append_nil, List.append_assoc]; done) | omega | (simp only [List.nil_append, List.length_append, List.length_cons, List.length_nil]; omega) | (simp [ei, eb, es, ec]; done) | simp [ei, eb, es, ec])) ?_)
      first | exact trivial | exact rfl
    · refine And.intro ⟨by kernel_rfl⟩ ?_
      refine ob_ix hR0 (fun h => ei0 h) H fun h283 H => ?_
      refine ld_int (e := a0.getD (0 : Int).toNat 0) (rd_get hR0 (ei_get (l := a0) (tn h283))) ?_
      refine ob_ck H fun h284 H => ?_
      refine ob_ck H fun h285 H => ?_
      refine ld_int (e := ([0, 0, 192, 224, 240]).getD ((a0.length : Nat) : Int).toNat 0) (own_get (ys := ei .i64 ([0, 0, 192, 224, 240])) (by first | rfl | simp [ei, eb, es, ec]) (ei_get (l := [0, 0, 192, 224, 240]) (by first | exact tn h285 | (have := tn h285; simp at this ⊢; omega) | (have := tn h285; simp; omega)))) ?_
      refine ob_ck H fun h286 H => ?_
      refine R.cut_fam H 30 [] [] (fun v316 => [(4, .v (.int .i32 (v316)))]) (fun v316 => []) [(1, .arr 3 1 (5) (ei .i64 ([0, 0, 192, 224, 240])))] 0 (fun H => ?_)
      refine And.intro ?_ ?_
      · refine R.loop_fam (bind_st H) [0] [] (fun _ s320 => [(4, .v (.int .i32 (s320.1))), (5, .v (.int .i64 (s320.2)))]) (fun _ s320 => []) 0 (fun n341 H => ?_)
        refine ⟨(n341, _), ⟨H⟩, ⟨trivial⟩, ?_⟩
        repeat (refine And.intro (Ob.mk (by first | exact rfl | exact Iff.rfl | exact ⟨rfl, rfl⟩ | exact decide_eq_true_iff | (refine ⟨?_, ?_⟩ <;> first | exact rfl | (simp only [ei, eb, es, ec, List.map_append, List.flatMap_append, List.nil_append, List.append_nil, List.append_assoc]; done) | omega | (simp only [List.nil_append, List.length_append, List.length_cons, List.length_nil]; omega) | (simp [ei, eb, es, ec]; done)) | (constructor <;> first | exact rfl | (simp only [ei, eb, es, ec, List.map_append, List.flatMap_append, List.nil_append, List.append_nil, List.append_assoc]; done) | omega | (simp only [List.nil_append, List.length_append, List.length_cons, List.length_nil]; omega) | (simp [ei, eb, es, ec]; done)) | exact rfl | (simp only [ei, eb, es, ec, List.map_append, List.flatMap_append, List.nil_append, List.append_nil, List.append_assoc]; done) | omega | (simp only [List.nil_append, List.length_append, List.length_cons, List.length_nil]; omega) | (simp [ei, eb, es, ec]; done) | simp [ei, eb, es, ec])) ?_)
        rintro ⟨m0, s320⟩ H _
        obtain ⟨m321, hm0, H⟩ := IG_succ H
        dsimp only at hm0
        subst hm0
        try dsimp only at H
        refine if_st H (fun h335 H => ?_) (fun h335 H => ?_)
        · refine ob_ck H fun h336 H => ?_
          refine ob_ix hR0 (fun h => ei0 h) H fun h337 H => ?_
          refine ld_int (e := a0.getD s320.2.toNat 0) (rd_get hR0 (ei_get (l := a0) (tn h337))) ?_
          refine And.intro ⟨by decide⟩ ?_
          refine ob_ck H fun h338 H => ?_
          refine ob_ck H fun h339 H => ?_
          refine ob_ck H fun h340 H => ?_
          replace H := some_st H
          refine ⟨(m321, ((s320.1 * 64) + (Int.tmod (a0.getD s320.2.toNat 0) 64), s320.2 + 1)), ⟨H, Nat.lt_succ_self _⟩, ⟨trivial⟩, ⟨rfl⟩, ?_⟩
          repeat (refine And.intro (Ob.mk (by first | exact rfl | exact Iff.rfl | exact ⟨rfl, rfl⟩ | exact decide_eq_true_iff | (refine ⟨?_, ?_⟩ <;> first | exact rfl | (simp only [ei, eb, es, ec, List.map_append, List.flatMap_append, List.nil_append, List.append_nil, List.append_assoc]; done) | omega | (simp only [List.nil_append, List.length_append, List.length_cons, List.length_nil]; omega) | (simp [ei, eb, es, ec]; done)) | (constructor <;> first | exact rfl | (simp only [ei, eb, es, ec, List.map_append, List.flatMap_append, List.nil_append, List.append_nil, List.append_assoc]; done) | omega | (simp only [List.nil_append, List.length_append, List.length_cons, List.length_nil]; omega) | (simp [ei, eb, es, ec]; done)) | exact rfl | (simp only [ei, eb, es, ec, List.map_append, List.flatMap_append, List.nil_append, List.append_nil, List.append_assoc]; done) | omega | (simp only [List.nil_append, List.length_append, List.length_cons, List.length_nil]; omega) | (simp [ei, eb, es, ec]; done) | simp [ei, eb, es, ec])) ?_)
          first | exact trivial | exact rfl
        · replace H := some_st H
          dsimp only [stp, sm] at H
          refine ⟨s320.1, ⟨H⟩, ⟨rfl⟩, ?_⟩
          repeat (refine And.intro (Ob.mk (by first | exact rfl | exact Iff.rfl | exact ⟨rfl, rfl⟩ | exact decide_eq_true_iff | (refine ⟨?_, ?_⟩ <;> first | exact rfl | (simp only [ei, eb, es, ec, List.map_append, List.flatMap_append, List.nil_append, List.append_nil, List.append_assoc]; done) | omega | (simp only [List.nil_append, List.length_append, List.length_cons, List.length_nil]; omega) | (simp [ei, eb, es, ec]; done)) | (constructor <;> first | exact rfl | (simp only [ei, eb, es, ec, List.map_append, List.flatMap_append, List.nil_append, List.append_nil, List.append_assoc]; done) | omega | (simp only [List.nil_append, List.length_append, List.length_cons, List.length_nil]; omega) | (simp [ei, eb, es, ec]; done)) | exact rfl | (simp only [ei, eb, es, ec, List.map_append, List.flatMap_append, List.nil_append, List.append_nil, List.append_assoc]; done) | omega | (simp only [List.nil_append, List.length_append, List.length_cons, List.length_nil]; omega) | (simp [ei, eb, es, ec]; done) | simp [ei, eb, es, ec])) ?_)
          first | exact trivial | exact rfl
      · intro v316 H
        have hfin := fin_st H
        repeat (refine And.intro (Ob.mk (by first | (rw [← hfin] <;> first | exact rfl | exact Iff.rfl | exact ⟨rfl, rfl⟩ | exact decide_eq_true_iff | (refine ⟨?_, ?_⟩ <;> first | exact rfl | (simp only [ei, eb, es, ec, List.map_append, List.flatMap_append, List.nil_append, List.append_nil, List.append_assoc]; done) | omega | (simp only [List.nil_append, List.length_append, List.length_cons, List.length_nil]; omega) | (simp [ei, eb, es, ec]; done)) | (constructor <;> first | exact rfl | (simp only [ei, eb, es, ec, List.map_append, List.flatMap_append, List.nil_append, List.append_nil, List.append_assoc]; done) | omega | (simp only [List.nil_append, List.length_append, List.length_cons, List.length_nil]; omega) | (simp [ei, eb, es, ec]; done)) | exact rfl | (simp only [ei, eb, es, ec, List.map_append, List.flatMap_append, List.nil_append, List.append_nil, List.append_assoc]; done) | omega | (simp only [List.nil_append, List.length_append, List.length_cons, List.length_nil]; omega) | (simp [ei, eb, es, ec]; done) | simp [ei, eb, es, ec]) | first | exact rfl | exact Iff.rfl | exact ⟨rfl, rfl⟩ | exact decide_eq_true_iff | (refine ⟨?_, ?_⟩ <;> first | exact rfl | (simp only [ei, eb, es, ec, List.map_append, List.flatMap_append, List.nil_append, List.append_nil, List.append_assoc]; done) | omega | (simp only [List.nil_append, List.length_append, List.length_cons, List.length_nil]; omega) | (simp [ei, eb, es, ec]; done)) | (constructor <;> first | exact rfl | (simp only [ei, eb, es, ec, List.map_append, List.flatMap_append, List.nil_append, List.append_nil, List.append_assoc]; done) | omega | (simp only [List.nil_append, List.length_append, List.length_cons, List.length_nil]; omega) | (simp [ei, eb, es, ec]; done)) | exact rfl | (simp only [ei, eb, es, ec, List.map_append, List.flatMap_append, List.nil_append, List.append_nil, List.append_assoc]; done) | omega | (simp only [List.nil_append, List.length_append, List.length_cons, List.length_nil]; omega) | (simp [ei, eb, es, ec]; done) | simp [ei, eb, es, ec])) ?_)
        first | exact trivial | exact rfl
noncomputable def e60 (n : Nat) (a0 : List Int) : Option (Int) :=
  if ((a0.length : Nat) : Int) < 2 then
    (
      ck (0 ≤ (0 : Int) ∧ 0 < ((a0.length : Nat) : Int)) <|
      ck (inR .i32 (a0.getD (0 : Int).toNat 0)) <|
      some (a0.getD (0 : Int).toNat 0)
    )
  else
    (
      if 4 < ((a0.length : Nat) : Int) then
        (
          ck (0 ≤ (0 : Int) ∧ 0 < ((a0.length : Nat) : Int)) <|
          ck (inR .i32 (a0.getD (0 : Int).toNat 0)) <|
          some (a0.getD (0 : Int).toNat 0)
        )
      else
        (
          ck (0 ≤ (0 : Int) ∧ 0 < ((a0.length : Nat) : Int)) <|
          ck (inR .i64 (a0.getD (0 : Int).toNat 0)) <|
          ck (0 ≤ ((a0.length : Nat) : Int) ∧ ((a0.length : Nat) : Int) < ((5 : Nat) : Int)) <|
          ck (inR .i64 ((a0.getD (0 : Int).toNat 0) - (([0, 0, 192, 224, 240]).getD ((a0.length : Nat) : Int).toNat 0))) <|
          jn (α := _) (β := Int) (fun k317 =>
              (itN n (σ := Int × Int) (ρ := Int) (fun s320 =>
                  if s320.2 < ((a0.length : Nat) : Int) then
                    (
                      ck (inR .i32 (s320.1 * 64)) <|
                      ck (0 ≤ s320.2 ∧ s320.2 < ((a0.length : Nat) : Int)) <|
                      ck (inR .i32 (Int.tmod (a0.getD s320.2.toNat 0) 64)) <|
                      ck (inR .i32 ((s320.1 * 64) + (Int.tmod (a0.getD s320.2.toNat 0) 64))) <|
                      ck (inR .i64 (s320.2 + 1)) <|
                      some (.go ((s320.1 * 64) + (Int.tmod (a0.getD s320.2.toNat 0) 64), s320.2 + 1))
                    )
                  else
                    some (.out s320.1)
                ) (IntKind.wrap .i32 ((a0.getD (0 : Int).toNat 0) - (([0, 0, 192, 224, 240]).getD ((a0.length : Nat) : Int).toNat 0)), 1)).bind fun o334 =>
                k317 o334
          ) (fun v316 =>
            some v316
          )
        )
    )
theorem e60_le (n : Nat) (a0 : List Int) : Le (e60 n a0) (g60 a0) := by
  unfold e60 g60
  repeat' first | refine le_bind ?_ (fun _ => ?_) | refine le_ck ?_ | refine le_if ?_ ?_ | refine le_sm (fun _ => ?_) (fun _ => ?_) | refine le_jn (fun _ _ _ => ?_) (fun _ => ?_) | refine le_loop (fun _ => ?_) | with_reducible exact le_refl | apply_assumption

/-- placard/placardref01.tails -/
noncomputable def g86 (a0 : List Int) : Option (Bool) :=
  jn (α := _) (β := Unit) (fun k377 =>
      (loopO (σ := Int) (ρ := (Unit) ⊕ (Unit)) (fun s380 =>
          if s380 < ((a0.length : Nat) : Int) then
            (
              ck (0 ≤ s380 ∧ s380 < ((a0.length : Nat) : Int)) <|
              if (a0.getD s380.toNat 0) < 128 then
                some (.out (.inl (())))
              else
                (
                  ck (0 ≤ s380 ∧ s380 < ((a0.length : Nat) : Int)) <|
                  if 191 < (a0.getD s380.toNat 0) then
                    some (.out (.inl (())))
                  else
                    (
                      ck (inR .i64 (s380 + 1)) <|
                      some (.go (s380 + 1))
                    )
                )
            )
          else
            some (.out (.inr (())))
        ) 1).bind fun o394 =>
      sm o394 (fun o401 =>
          some false
        ) (fun o402 =>
          k377 ()
        )
  ) (fun v376 =>
    some true
  )
noncomputable def k86 : Eng.CS := { f := 86, calm := true, more := 0, ι := (List Int) × Bool, ok := fun i => g86 i.1 = some i.2, rds := fun _ => [], args := fun i => [.sl 1 i.1.length (ei .u8 i.1)], res := fun i => bS i.2 }
set_option maxRecDepth 8000 in
set_option maxHeartbeats 4000000 in
theorem k86_ok : CalmOk Try.prog k86 := by
  refine R.calmspec Try.func86 nm86 rfl ?_
  rintro ⟨a0, r⟩ hok q _ args hargs
  match args, hargs with
  | [_], hargs =>
  obtain ⟨⟨A0, cp0, rfl, hc0, _, hR0⟩, _⟩ := hargs
  refine ⟨envC [] false [(86, 6)], 6, envC_ok (css_nil), rfl, (by intro x hx; simp only [List.mem_cons, List.not_mem_nil, or_false] at hx; rcases hx with rfl <;> rfl), ?_⟩
  have H : Gives (g86 a0) (fun a => a = r) := ⟨r, hok, rfl⟩
  unfold g86 at H
  clear hok
  refine R.cut_fam H 8 [] [] (fun v376 => []) (fun v376 => []) [] 0 (fun H => ?_)
  refine And.intro ?_ ?_
  · refine R.loop_fam (bind_st H) [0] [] (fun _ s380 => [(3, .v (.int .i64 (s380)))]) (fun _ s380 => []) 0 (fun n403 H => ?_)
    refine ⟨(n403, _), ⟨H⟩, ⟨trivial⟩, ?_⟩
    repeat (refine And.intro (Ob.mk (by first | exact rfl | exact Iff.rfl | exact ⟨rfl, rfl⟩ | exact decide_eq_true_iff | (refine ⟨?_, ?_⟩ <;> first | exact rfl | (simp only [ei, eb, es, ec, List.map_append, List.flatMap_append, List.nil_append, List.append_nil, List.append_assoc]; done) | omega | (simp only [List.nil_append, List.length_append, List.length_cons, List.length_nil]; omega) | (simp [ei, eb, es, ec]; done)) | (constructor <;> first | exact rfl | (simp only [ei, eb, es, ec, List.map_append, List.flatMap_append, List.nil_append, List.append_nil, List.append_assoc]; done) | omega | (simp only [List.nil_append, List.length_append, List.length_cons, List.length_nil]; omega) | (simp [ei, eb, es, ec]; done)) | exact rfl | (simp only [ei, eb, es, ec, List.map_append, List.flatMap_append, List.nil_append, List.append_nil, List.append_assoc]; done) | omega | (simp only [List.nil_append, List.length_append, List.length_cons, List.length_nil]; omega) | (simp [ei, eb, es, ec]; done) | simp [ei, eb, es, ec])) ?_)
    rintro ⟨m0, s380⟩ H _
    obtain ⟨m381, hm0, H⟩ := IG_succ H
    dsimp only at hm0
    subst hm0
    try dsimp only at H
    refine if_st H (fun h395 H => ?_) (fun h395 H => ?_)
    · refine ob_ix hR0 (fun h => ei0 h) H fun h396 H => ?_
      refine ld_int (e := a0.getD s380.toNat 0) (rd_get hR0 (ei_get (l := a0) (tn h396))) ?_
      refine if_st H (fun h397 H => ?_) (fun h397 H => ?_)
      · replace H := some_st H
        dsimp only [stp, sm] at H
        have hfin := fin_st H
        repeat (refine And.intro (Ob.mk (by first | (rw [← hfin] <;> first | exact rfl | exact Iff.rfl | exact ⟨rfl, rfl⟩ | exact decide_eq_true_iff | (refine ⟨?_, ?_⟩ <;> first | exact rfl | (simp only [ei, eb, es, ec, List.map_append, List.flatMap_append, List.nil_append, List.append_nil, List.append_assoc]; done) | omega | (simp only [List.nil_append, List.length_append, List.length_cons, List.length_nil]; omega) | (simp [ei, eb, es, ec]; done)) | (constructor <;> first | exact rfl | (simp only [ei, eb, es, ec, List.map_append, List.flatMap_append, List.nil_append, List.append_nil, List.append_assoc]; done) | omega | (simp only [List.nil_append, List.length_append, List.length_cons, List.length_nil]; omega) | (simp [ei, eb, es, ec]; done)) | exact rfl | (simp only [ei, eb, es, ec, List.map_append, List.flatMap_append, List.nil_append, List.append_nil, List.append_assoc]; done) | omega | (simp only [List.nil_append, List.length_append, List.length_cons, List.length_nil]; omega) | (simp [ei, eb, es, ec]; done) | simp [ei, eb, es, ec]) | first | exact rfl | exact Iff.rfl | exact ⟨rfl, rfl⟩ | exact decide_eq_true_iff | (refine ⟨?_, ?_⟩ <;> first | exact rfl | (simp only [ei, eb, es, ec, List.map_append, List.flatMap_append, List.nil_append, List.append_nil, List.append_assoc]; done) | omega | (simp only [List.nil_append, List.length_append, List.length_cons, List.length_nil]; omega) | (simp [ei, eb, es, ec]; done)) | (constructor <;> first | exact rfl | (simp only [ei, eb, es, ec, List.map_append, List.flatMap_append, List.nil_append, List.append_nil, List.append_assoc]; done) | omega | (simp only [List.nil_append, List.length_append, List.length_cons, List.length_nil]; omega) | (simp [ei, eb, es, ec]; done)) | exact rfl | (simp only [ei, eb, es, ec, List.map_append, List.flatMap_append, List.nil_append, List.append_nil, List.append_assoc]; done) | omega | (simp only [List.nil_append, List.length_append, List.length_cons, List.length_nil]; omega) | (simp [ei, eb, es, ec]; done) | simp [ei, eb, es, ec])) ?_)
        first | exact trivial | exact rfl
      · refine ob_ix hR0 (fun h => ei0 h) H fun h398 H => ?_
        refine ld_int (e := a0.getD s380.toNat 0) (rd_get hR0 (ei_get (l := a0) (tn h398))) ?_
        refine if_st H (fun h399 H => ?_) (fun h399 H => ?_)
        · replace H := some_st H
          dsimp only [stp, sm] at H
          have hfin := fin_st H
          repeat (refine And.intro (Ob.mk (by first | (rw [← hfin] <;> first | exact rfl | exact Iff.rfl | exact ⟨rfl, rfl⟩ | exact decide_eq_true_iff | (refine ⟨?_, ?_⟩ <;> first | exact rfl | (simp only [ei, eb, es, ec, List.map_append, List.flatMap_append, List.nil_append, List.append_nil, List.append_assoc]; done) | omega | (simp only [List.nil_append, List.length_append, List.length_cons, List.length_nil]; omega) | (simp [ei, eb, es, ec]; done)) | (constructor <;> first | exact rfl | (simp only [ei, eb, es, ec, List.map_append, List.flatMap_append, List.nil_append, List.append_nil, List.append_assoc]; done) | omega | (simp only [List.nil_append, List.length_append, List.length_cons, List.length_nil]; omega) | (simp [ei, eb, es, ec]; done)) | exact rfl | (simp only [ei, eb, es, ec, List.map_append, List.flatMap_append, List.nil_append, List.append_nil, List.append_assoc]; done) | omega | (simp only [List.nil_append, List.length_append, List.length_cons, List.length_nil]; omega) | (simp [ei, eb, es, ec]; done) | simp [ei, eb, es, ec]) | first | exact rfl | exact Iff.rfl | exact ⟨rfl, rfl⟩ | exact decide_eq_true_iff | (refine ⟨?_, ?_⟩ <;> first | exact rfl | (simp only [ei, eb, es, ec, List.map_append, List.flatMap_append, List.nil_append, List.append_nil, List.append_assoc]; done) | omega | (simp only [List.nil_append, List.length_append, List.length_cons, List.length_nil]; omega) | (simp [ei, eb, es, ec]; done)) | (constructor <;> first | exact rfl | (simp only [ei, eb, es, ec, List.map_append, List.flatMap_append, List.nil_append, List.append_nil, List.append_assoc]; done) | omega | (simp only [List.nil_append, List.length_append, List.length_cons, List.length_nil]; omega) | (simp [ei, eb, es, ec]; done)) | exact rfl | (simp only [ei, eb, es, ec, List.map_append, List.flatMap_append, List.nil_append, List.append_nil, List.append_assoc]; done) | omega | (simp only [List.nil_append, List.length_append, List.length_cons, List.length_nil]; omega) | (simp [ei, eb, es, ec]; done) | simp [ei, eb, es, ec])) ?_)
          first | exact trivial | exact rfl
        · refine ob_ck H fun h400 H => ?_
          replace H := some_st H
          refine ⟨(m381, s380 + 1), ⟨H, Nat.lt_succ_self _⟩, ⟨trivial⟩, ⟨rfl⟩, ?_⟩
          repeat (refine And.intro (Ob.mk (by first | exact rfl | exact Iff.rfl | exact ⟨rfl, rfl⟩ | exact decide_eq_true_iff | (refine ⟨?_, ?_⟩ <;> first | exact rfl | (simp only [ei, eb, es, ec, List.map_append, List.flatMap_append, List.nil_append, List.append_nil, List.append_assoc]; done) | omega | (simp only [List.nil_append, List.length_append, List.length_cons, List.length_nil]; omega) | (simp [ei, eb, es, ec]; done)) | (constructor <;> first | exact rfl | (simp only [ei, eb, es, ec, List.map_append, List.flatMap_append, List.nil_append, List.append_nil, List.append_assoc]; done) | omega | (simp only [List.nil_append, List.length_append, List.length_cons, List.length_nil]; omega) | (simp [ei, eb, es, ec]; done)) | exact rfl | (simp only [ei, eb, es, ec, List.map_append, List.flatMap_append, List.nil_append, List.append_nil, List.append_assoc]; done) | omega | (simp only [List.nil_append, List.length_append, List.length_cons, List.length_nil]; omega) | (simp [ei, eb, es, ec]; done) | simp [ei, eb, es, ec])) ?_)
          first | exact trivial | exact rfl
    · replace H := some_st H
      dsimp only [stp, sm] at H
      refine ⟨(), ⟨H⟩, ⟨rfl⟩, ?_⟩
      repeat (refine And.intro (Ob.mk (by first | exact rfl | exact Iff.rfl | exact ⟨rfl, rfl⟩ | exact decide_eq_true_iff | (refine ⟨?_, ?_⟩ <;> first | exact rfl | (simp only [ei, eb, es, ec, List.map_append, List.flatMap_append, List.nil_append, List.append_nil, List.append_assoc]; done) | omega | (simp only [List.nil_append, List.length_append, List.length_cons, List.length_nil]; omega) | (simp [ei, eb, es, ec]; done)) | (constructor <;> first | exact rfl | (simp only [ei, eb, es, ec, List.map_append, List.flatMap_append, List.nil_append, List.append_nil, List.append_assoc]; done) | omega | (simp only [List.nil_append, List.length_append, List.length_cons, List.length_nil]; omega) | (simp [ei, eb, es, ec]; done)) | exact rfl | (simp only [ei, eb, es, ec, List.map_append, List.flatMap_append, List.nil_append, List.append_nil, List.append_assoc]; done) | omega | (simp only [List.nil_append, List.length_append, List.length_cons, List.length_nil]; omega) | (simp [ei, eb, es, ec]; done) | simp [ei, eb, es, ec])) ?_)
      first | exact trivial | exact rfl
  · intro v376 H
    have hfin := fin_st H
    repeat (refine And.intro (Ob.mk (by first | (rw [← hfin] <;> first | exact rfl | exact Iff.rfl | exact ⟨rfl, rfl⟩ | exact decide_eq_true_iff | (refine ⟨?_, ?_⟩ <;> first | exact rfl | (simp only [ei, eb, es, ec, List.map_append, List.flatMap_append, List.nil_append, List.append_nil, List.append_assoc]; done) | omega | (simp only [List.nil_append, List.length_append, List.length_cons, List.length_nil]; omega) | (simp [ei, eb, es, ec]; done)) | (constructor <;> first | exact rfl | (simp only [ei, eb, es, ec, List.map_append, List.flatMap_append, List.nil_append, List.append_nil, List.append_assoc]; done) | omega | (simp only [List.nil_append, List.length_append, List.length_cons, List.length_nil]; omega) | (simp [ei, eb, es, ec]; done)) | exact rfl | (simp only [ei, eb, es, ec, List.map_append, List.flatMap_append, List.nil_append, List.append_nil, List.append_assoc]; done) | omega | (simp only [List.nil_append, List.length_append, List.length_cons, List.length_nil]; omega) | (simp [ei, eb, es, ec]; done) | simp [ei, eb, es, ec]) | first | exact rfl | exact Iff.rfl | exact ⟨rfl, rfl⟩ | exact decide_eq_true_iff | (refine ⟨?_, ?_⟩ <;> first | exact rfl | (simp only [ei, eb, es, ec, List.map_append, List.flatMap_append, List.nil_append, List.append_nil, List.append_assoc]; done) | omega | (simp only [List.nil_append, List.length_append, List.length_cons, List.length_nil]; omega) | (simp [ei, eb, es, ec]; done)) | (constructor <;> first | exact rfl | (simp only [ei, eb, es, ec, List.map_append, List.flatMap_append, List.nil_append, List.append_nil, List.append_assoc]; done) | omega | (simp only [List.nil_append, List.length_append, List.length_cons, List.length_nil]; omega) | (simp [ei, eb, es, ec]; done)) | exact rfl | (simp only [ei, eb, es, ec, List.map_append, List.flatMap_append, List.nil_append, List.append_nil, List.append_assoc]; done) | omega | (simp only [List.nil_append, List.length_append, List.length_cons, List.length_nil]; omega) | (simp [ei, eb, es, ec]; done) | simp [ei, eb, es, ec])) ?_)
    first | exact trivial | exact rfl
noncomputable def e86 (n : Nat) (a0 : List Int) : Option (Bool) :=
  jn (α := _) (β := Unit) (fun k377 =>
      (itN n (σ := Int) (ρ := (Unit) ⊕ (Unit)) (fun s380 =>
          if s380 < ((a0.length : Nat) : Int) then
            (
              ck (0 ≤ s380 ∧ s380 < ((a0.length : Nat) : Int)) <|
              if (a0.getD s380.toNat 0) < 128 then
                some (.out (.inl (())))
              else
                (
                  ck (0 ≤ s380 ∧ s380 < ((a0.length : Nat) : Int)) <|
                  if 191 < (a0.getD s380.toNat 0) then
                    some (.out (.inl (())))
                  else
                    (
                      ck (inR .i64 (s380 + 1)) <|
                      some (.go (s380 + 1))
                    )
                )
            )
          else
            some (.out (.inr (())))
        ) 1).bind fun o394 =>
      sm o394 (fun o401 =>
          some false
        ) (fun o402 =>
          k377 ()
        )
  ) (fun v376 =>
    some true
  )
theorem e86_le (n : Nat) (a0 : List Int) : Le (e86 n a0) (g86 a0) := by
  unfold e86 g86
  repeat' first | refine le_bind ?_ (fun _ => ?_) | refine le_ck ?_ | refine le_if ?_ ?_ | refine le_sm (fun _ => ?_) (fun _ => ?_) | refine le_jn (fun _ _ _ => ?_) (fun _ => ?_) | refine le_loop (fun _ => ?_) | with_reducible exact le_refl | apply_assumption

/-- placard/placardref01.begins -/
noncomputable def g59 (a0 : List Int) : Option (Bool) :=
  ck (0 ≤ (0 : Int) ∧ 0 < ((a0.length : Nat) : Int)) <|
  (g58 (a0.getD (0 : Int).toNat 0)).bind fun v405 =>
  if v405 < ((a0.length : Nat) : Int) then
    some false
  else
    (
      (g86 a0).bind fun v415 =>
      if ¬ (v415 = true) then
        some false
      else
        (
          ck ((0 + a0.length) * 1 ≤ 140737488355328) <|
          ck ((0 + a0.length) * 1 ≤ 140737488355328) <|
          jn (α := _) (β := List Int × List Int) (fun k453 =>
              (loopO (σ := List Int × List Int) (ρ := List Int × List Int) (fun s456 =>
                  if ((s456.1.length : Nat) : Int) < v405 then
                    (
                      ck ((s456.1.length + 1) * 1 ≤ 140737488355328) <|
                      ck ((s456.2.length + 1) * 1 ≤ 140737488355328) <|
                      some (.go ((s456.1 ++ [128]), (s456.2 ++ [191])))
                    )
                  else
                    some (.out (s456.1, s456.2))
                ) (([] ++ a0), ([] ++ a0))).bind fun o472 =>
                k453 (o472.1, o472.2)
          ) (fun v452 =>
            (g60 v452.1).bind fun v481 =>
            (g60 v452.2).bind fun v483 =>
            ck (0 ≤ v405 ∧ v405 < ((5 : Nat) : Int)) <|
            if (([0, 0, 128, 2048, 65536]).getD v405.toNat 0) ≤ v483 then
              (
                if v481 ≤ 1114111 then
                  (
                    if v481 < 55296 then
                      some true
                    else
                      some (decide (57343 < v483))
                  )
                else
                  some false
              )
            else
              some false
          )
        )
    )
noncomputable def k59 : Eng.CS := { f := 59, calm := true, more := 0, ι := (List Int) × Bool, ok := fun i => g59 i.1 = some i.2, rds := fun _ => [], args := fun i => [.sl 1 i.1.length (ei .u8 i.1)], res := fun i => bS i.2 }
set_option maxRecDepth 8000 in
set_option maxHeartbeats 4000000 in
theorem k59_ok : CalmOk Try.prog k59 := by
  refine R.calmspec Try.func59 nm59 rfl ?_
  rintro ⟨a0, r⟩ hok q _ args hargs
  match args, hargs with
  | [_], hargs =>
  obtain ⟨⟨A0, cp0, rfl, hc0, _, hR0⟩, _⟩ := hargs
  refine ⟨envC [k58, k60, k86] false [(59, 7)], 6, envC_ok (css_cons ⟨fun _ => k58_ok, fun h => (by cases h)⟩ (css_cons ⟨fun _ => k60_ok, fun h => (by cases h)⟩ (css_cons ⟨fun _ => k86_ok, fun h => (by cases h)⟩ (css_nil)))), rfl, (by intro x hx; simp only [List.mem_cons, List.not_mem_nil, or_false] at hx; rcases hx with rfl <;> rfl), ?_⟩
  have H : Gives (g59 a0) (fun a => a = r) := ⟨r, hok, rfl⟩
  unfold g59 at H
  clear hok
  refine ob_ix hR0 (fun h => ei0 h) H fun h404 H => ?_
  refine ld_int (e := a0.getD (0 : Int).toNat 0) (rd_get hR0 (ei_get (l := a0) (tn h404))) ?_
  obtain ⟨v405, hv406, H⟩ := call_st H
  refine ⟨(a0.getD (0 : Int).toNat 0, v405), ⟨hv406⟩, ⟨trivial⟩, ?_⟩
  refine And.intro ⟨rfl⟩ ?_
  refine if_st H (fun h414 H => ?_) (fun h414 H => ?_)
  · have hfin := fin_st H
    repeat (refine And.intro (Ob.mk (by first | (rw [← hfin] <;> first | exact rfl | exact Iff.rfl | exact ⟨rfl, rfl⟩ | exact decide_eq_true_iff | (refine ⟨?_, ?_⟩ <;> first | exact rfl | (simp only [ei, eb, es, ec, List.map_append, List.flatMap_append, List.nil_append, List.append_nil, List.append_assoc]; done) | omega | (simp only [List.nil_append, List.length_append, List.length_cons, List.length_nil]; omega) | (simp [ei, eb, es, ec]; done)) | (constructor <;> first | exact rfl | (simp only [ei, eb, es, ec, List.map_append, List.flatMap_append, List.nil_append, List.append_nil, List.append_assoc]; done) | omega | (simp only [List.nil_append, List.length_append, List.length_cons, List.length_nil]; omega) | (simp [ei, eb, es, ec]; done)) | exact rfl | (simp only [ei, eb, es, ec, List.map_append, List.flatMap_append, List.nil_append, List.append_nil, List.append_assoc]; done) | omega | (simp only [List.nil_append, List.length_append, List.length_cons, List.length_nil]; omega) | (simp [ei, eb, es, ec]; done) | simp [ei, eb, es, ec]) | first | exact rfl | exact Iff.rfl | exact ⟨rfl, rfl⟩ | exact decide_eq_true_iff | (refine ⟨?_, ?_⟩ <;> first | exact rfl | (simp only [ei, eb, es, ec, List.map_append, List.flatMap_append, List.nil_append, List.append_nil, List.append_assoc]; done) | omega | (simp only [List.nil_append, List.length_append, List.length_cons, List.length_nil]; omega) | (simp [ei, eb, es, ec]; done)) | (constructor <;> first | exact rfl | (simp only [ei, eb, es, ec, List.map_append, List.flatMap_append, List.nil_append, List.append_nil, List.append_assoc]; done) | omega | (simp only [List.nil_append, List.length_append, List.length_cons, List.length_nil]; omega) | (simp [ei, eb, es, ec]; done)) | exact rfl | (simp only [ei, eb, es, ec, List.map_append, List.flatMap_append, List.nil_append, List.append_nil, List.append_assoc]; done) | omega | (simp only [List.nil_append, List.length_append, List.length_cons, List.length_nil]; omega) | (simp [ei, eb, es, ec]; done) | simp [ei, eb, es, ec])) ?_)
    first | exact trivial | exact rfl
  · obtain ⟨v415, hv416, H⟩ := call_st H
    refine ⟨(a0, v415), ⟨hv416⟩, ⟨trivial⟩, ?_⟩
    refine And.intro ⟨rfl, hc0, ei_len.trans ((show _ = _ from rfl).trans (Nat.mul_one _).symm), hR0⟩ ?_
    refine if_st H (fun h417 H => ?_) (fun h417 H => ?_)
    · have hfin := fin_st H
      repeat (refine And.intro (Ob.mk (by first | (rw [← hfin] <;> first | exact rfl | exact Iff.rfl | exact ⟨rfl, rfl⟩ | exact decide_eq_true_iff | (refine ⟨?_, ?_⟩ <;> first | exact rfl | (simp only [ei, eb, es, ec, List.map_append, List.flatMap_append, List.nil_append, List.append_nil, List.append_assoc]; done) | omega | (simp only [List.nil_append, List.length_append, List.length_cons, List.length_nil]; omega) | (simp [ei, eb, es, ec]; done)) | (constructor <;> first | exact rfl | (simp only [ei, eb, es, ec, List.map_append, List.flatMap_append, List.nil_append, List.append_nil, List.append_assoc]; done) | omega | (simp only [List.nil_append, List.length_append, List.length_cons, List.length_nil]; omega) | (simp [ei, eb, es, ec]; done)) | exact rfl | (simp only [ei, eb, es, ec, List.map_append, List.flatMap_append, List.nil_append, List.append_nil, List.append_assoc]; done) | omega | (simp only [List.nil_append, List.length_append, List.length_cons, List.length_nil]; omega) | (simp [ei, eb, es, ec]; done) | simp [ei, eb, es, ec]) | first | exact rfl | exact Iff.rfl | exact ⟨rfl, rfl⟩ | exact decide_eq_true_iff | (refine ⟨?_, ?_⟩ <;> first | exact rfl | (simp only [ei, eb, es, ec, List.map_append, List.flatMap_append, List.nil_append, List.append_nil, List.append_assoc]; done) | omega | (simp only [List.nil_append, List.length_append, List.length_cons, List.length_nil]; omega) | (simp [ei, eb, es, ec]; done)) | (constructor <;> first | exact rfl | (simp only [ei, eb, es, ec, List.map_append, List.flatMap_append, List.nil_append, List.append_nil, List.append_assoc]; done) | omega | (simp only [List.nil_append, List.length_append, List.length_cons, List.length_nil]; omega) | (simp [ei, eb, es, ec]; done)) | exact rfl | (simp only [ei, eb, es, ec, List.map_append, List.flatMap_append, List.nil_append, List.append_nil, List.append_assoc]; done) | omega | (simp only [List.nil_append, List.length_append, List.length_cons, List.length_nil]; omega) | (simp [ei, eb, es, ec]; done) | simp [ei, eb, es, ec])) ?_)
      first | exact trivial | exact rfl
    · refine rs_st hR0 (by rw [ei_len]; simp) ?_
      refine ob_app (by decide) (by first | exact ei_one | ((repeat (refine List.forall_mem_cons.2 ⟨rfl, ?_⟩)); intro y hy; cases hy; done) | (intro y hy; simp [ei, eb, es, ec] at hy; (first | (rcases hy with rfl | hy) | subst hy | skip); all_goals first | rfl | simp_all [Value.oneCell'])) H fun h418 H => ?_
      intro n419 hn420
      subst hn420
      refine rs_st hR0 (by rw [ei_len]; simp) ?_
      refine ob_app (by decide) (by first | exact ei_one | ((repeat (refine List.forall_mem_cons.2 ⟨rfl, ?_⟩)); intro y hy; cases hy; done) | (intro y hy; simp [ei, eb, es, ec] at hy; (first | (rcases hy with rfl | hy) | subst hy | skip); all_goals first | rfl | simp_all [Value.oneCell'])) H fun h421 H => ?_
      intro n422 hn423
      subst hn423
      refine R.cut_fam H 33 [3] [] (fun v452 => [(4, .own 33), (5, .own 34)]) (fun v452 => [(33, .arr 5 1 (v452.1.length) (ei .u8 (v452.1))), (34, .arr 5 1 (v452.2.length) (ei .u8 (v452.2)))]) [] 2 (fun H => ?_)
      refine And.intro ?_ ?_
      · refine R.loop_fam (bind_st H) [3] [] (fun _ s456 => [(4, .own 23), (5, .own 24)]) (fun _ s456 => [(23, .arr 5 1 (s456.1.length) (ei .u8 (s456.1))), (24, .arr 5 1 (s456.2.length) (ei .u8 (s456.2)))]) 2 (fun n480 H => ?_)
        refine ⟨(n480, _), ⟨H⟩, ⟨trivial⟩, ?_⟩
        repeat (refine And.intro (Ob.mk (by first | exact rfl | exact Iff.rfl | exact ⟨rfl, rfl⟩ | exact decide_eq_true_iff | (refine ⟨?_, ?_⟩ <;> first | exact rfl | (simp only [ei, eb, es, ec, List.map_append, List.flatMap_append, List.nil_append, List.append_nil, List.append_assoc]; done) | omega | (simp only [List.nil_append, List.length_append, List.length_cons, List.length_nil]; omega) | (simp [ei, eb, es, ec]; done)) | (constructor <;> first | exact rfl | (simp only [ei, eb, es, ec, List.map_append, List.flatMap_append, List.nil_append, List.append_nil, List.append_assoc]; done) | omega | (simp only [List.nil_append, List.length_append, List.length_cons, List.length_nil]; omega) | (simp [ei, eb, es, ec]; done)) | exact rfl | (simp only [ei, eb, es, ec, List.map_append, List.flatMap_append, List.nil_append, List.append_nil, List.append_assoc]; done) | omega | (simp only [List.nil_append, List.length_append, List.length_cons, List.length_nil]; omega) | (simp [ei, eb, es, ec]; done) | simp [ei, eb, es, ec])) ?_)
        rintro ⟨m0, s456⟩ H _
        obtain ⟨m457, hm0, H⟩ := IG_succ H
        dsimp only at hm0
        subst hm0
        try dsimp only at H
        refine if_st H (fun h473 H => ?_) (fun h473 H => ?_)
        · refine ob_app (by decide) (by first | exact ei_one | ((repeat (refine List.forall_mem_cons.2 ⟨rfl, ?_⟩)); intro y hy; cases hy; done) | (intro y hy; simp [ei, eb, es, ec] at hy; (first | (rcases hy with rfl | hy) | subst hy | skip); all_goals first | rfl | simp_all [Value.oneCell'])) H fun h474 H => ?_
          intro n475 hn476
          subst hn476
          refine ob_app (by decide) (by first | exact ei_one | ((repeat (refine List.forall_mem_cons.2 ⟨rfl, ?_⟩)); intro y hy; cases hy; done) | (intro y hy; simp [ei, eb, es, ec] at hy; (first | (rcases hy with rfl | hy) | subst hy | skip); all_goals first | rfl | simp_all [Value.oneCell'])) H fun h477 H => ?_
          intro n478 hn479
          subst hn479
          replace H := some_st H
          refine ⟨(m457, ((s456.1 ++ [128]), (s456.2 ++ [191]))), ⟨H, Nat.lt_succ_self _⟩, ⟨trivial⟩, ⟨rfl⟩, ?_⟩
          repeat (refine And.intro (Ob.mk (by first | exact rfl | exact Iff.rfl | exact ⟨rfl, rfl⟩ | exact decide_eq_true_iff | (refine ⟨?_, ?_⟩ <;> first | exact rfl | (simp only [ei, eb, es, ec, List.map_append, List.flatMap_append, List.nil_append, List.append_nil, List.append_assoc]; done) | omega | (simp only [List.nil_append, List.length_append, List.length_cons, List.length_nil]; omega) | (simp [ei, eb, es, ec]; done)) | (constructor <;> first | exact rfl | (simp only [ei, eb, es, ec, List.map_append, List.flatMap_append, List.nil_append, List.append_nil, List.append_assoc]; done) | omega | (simp only [List.nil_append, List.length_append, List.length_cons, List.length_nil]; omega) | (simp [ei, eb, es, ec]; done)) | exact rfl | (simp only [ei, eb, es, ec, List.map_append, List.flatMap_append, List.nil_append, List.append_nil, List.append_assoc]; done) | omega | (simp only [List.nil_append, List.length_append, List.length_cons, List.length_nil]; omega) | (simp [ei, eb, es, ec]; done) | simp [ei, eb, es, ec])) ?_)
          first | exact trivial | exact rfl
        · replace H := some_st H
          dsimp only [stp, sm] at H
          refine ⟨(s456.1, s456.2), ⟨H⟩, ⟨rfl⟩, ?_⟩
          repeat (refine And.intro (Ob.mk (by first | exact rfl | exact Iff.rfl | exact ⟨rfl, rfl⟩ | exact decide_eq_true_iff | (refine ⟨?_, ?_⟩ <;> first | exact rfl | (simp only [ei, eb, es, ec, List.map_append, List.flatMap_append, List.nil_append, List.append_nil, List.append_assoc]; done) | omega | (simp only [List.nil_append, List.length_append, List.length_cons, List.length_nil]; omega) | (simp [ei, eb, es, ec]; done)) | (constructor <;> first | exact rfl | (simp only [ei, eb, es, ec, List.map_append, List.flatMap_append, List.nil_append, List.append_nil, List.append_assoc]; done) | omega | (simp only [List.nil_append, List.length_append, List.length_cons, List.length_nil]; omega) | (simp [ei, eb, es, ec]; done)) | exact rfl | (simp only [ei, eb, es, ec, List.map_append, List.flatMap_append, List.nil_append, List.append_nil, List.append_assoc]; done) | omega | (simp only [List.nil_append, List.length_append, List.length_cons, List.length_nil]; omega) | (simp [ei, eb, es, ec]; done) | simp [ei, eb, es, ec])) ?_)
          first | exact trivial | exact rfl
      · intro v452 H
        obtain ⟨v481, hv482, H⟩ := call_st H
        refine ⟨(v452.1, v481), ⟨hv482⟩, ⟨trivial⟩, ?_⟩
        refine And.intro ⟨by first | rfl | (simp; done), by first | rfl | (simp [ei, eb, es, ec]; done) | (simp only [ei, eb, es, ec, List.map_append, List.nil_append, List.append_assoc]; rfl)⟩ ?_
        obtain ⟨v483, hv484, H⟩ := call_st H
        refine ⟨(v452.2, v483), ⟨hv484⟩, ⟨trivial⟩, ?_⟩
        refine And.intro ⟨by first | rfl | (simp; done), by first | rfl | (simp [ei, eb, es, ec]; done) | (simp only [ei, eb, es, ec, List.map_append, List.nil_append, List.append_assoc]; rfl)⟩ ?_
        refine ob_ck H fun h485 H => ?_
        refine ld_int (e := ([0, 0, 128, 2048, 65536]).getD v405.toNat 0) (own_get (ys := ei .i32 ([0, 0, 128, 2048, 65536])) (by first | rfl | simp [ei, eb, es, ec]) (ei_get (l := [0, 0, 128, 2048, 65536]) (by first | exact tn h485 | (have := tn h485; simp at this ⊢; omega) | (have := tn h485; simp; omega)))) ?_
        refine if_st H (fun h486 H => ?_) (fun h486 H => ?_)
        · refine if_st H (fun h487 H => ?_) (fun h487 H => ?_)
          · refine if_st H (fun h488 H => ?_) (fun h488 H => ?_)
            · have hfin := fin_st H
              repeat (refine And.intro (Ob.mk (by first | (rw [← hfin] <;> first | exact rfl | exact Iff.rfl | exact ⟨rfl, rfl⟩ | exact decide_eq_true_iff | (refine ⟨?_, ?_⟩ <;> first | exact rfl | (simp only [ei, eb, es, ec, List.map_append, List.flatMap_append, List.nil_append, List.append_nil, List.append_assoc]; done) | omega | (simp only [List.nil_append, List.length_append, List.length_cons, List.length_nil]; omega) | (simp [ei, eb, es, ec]; done)) | (constructor <;> first | exact rfl | (simp only [ei, eb, es, ec, List.map_append, List.flatMap_append, List.nil_append, List.append_nil, List.append_assoc]; done) | omega | (simp only [List.nil_append, List.length_append, List.length_cons, List.length_nil]; omega) | (simp [ei, eb, es, ec]; done)) | exact rfl | (simp only [ei, eb, es, ec, List.map_append, List.flatMap_append, List.nil_append, List.append_nil, List.append_assoc]; done) | omega | (simp only [List.nil_append, List.length_append, List.length_cons, List.length_nil]; omega) | (simp [ei, eb, es, ec]; done) | simp [ei, eb, es, ec]) | first | exact rfl | exact Iff.rfl | exact ⟨rfl, rfl⟩ | exact decide_eq_true_iff | (refine ⟨?_, ?_⟩ <;> first | exact rfl | (simp only [ei, eb, es, ec, List.map_append, List.flatMap_append, List.nil_append, List.append_nil, List.append_assoc]; done) | omega | (simp only [List.nil_append, List.length_append, List.length_cons, List.length_nil]; omega) | (simp [ei, eb, es, ec]; done)) | (constructor <;> first | exact rfl | (simp only [ei, eb, es, ec, List.map_append, List.flatMap_append, List.nil_append, List.append_nil, List.append_assoc]; done) | omega | (simp only [List.nil_append, List.length_append, List.length_cons, List.length_nil]; omega) | (simp [ei, eb, es, ec]; done)) | exact rfl | (simp only [ei, eb, es, ec, List.map_append, List.flatMap_append, List.nil_append, List.append_nil, List.append_assoc]; done) | omega | (simp only [List.nil_append, List.length_append, List.length_cons, List.length_nil]; omega) | (simp [ei, eb, es, ec]; done) | simp [ei, eb, es, ec])) ?_)
              first | exact trivial | exact rfl
            · have hfin := fin_st H
              repeat (refine And.intro (Ob.mk (by first | (rw [← hfin] <;> first | exact rfl | exact Iff.rfl | exact ⟨rfl, rfl⟩ | exact decide_eq_true_iff | (refine ⟨?_, ?_⟩ <;> first | exact rfl | (simp only [ei, eb, es, ec, List.map_append, List.flatMap_append, List.nil_append, List.append_nil, List.append_assoc]; done) | omega | (simp only [List.nil_append, List.length_append, List.length_cons, List.length_nil]; omega) | (simp [ei, eb, es, ec]; done)) | (constructor <;> first | exact rfl | (simp only [ei, eb, es, ec, List.map_append, List.flatMap_append, List.nil_append, List.append_nil, List.append_assoc]; done) | omega | (simp only [List.nil_append, List.length_append, List.length_cons, List.length_nil]; omega) | (simp [ei, eb, es, ec]; done)) | exact rfl | (simp only [ei, eb, es, ec, List.map_append, List.flatMap_append, List.nil_append, List.append_nil, List.append_assoc]; done) | omega | (simp only [List.nil_append, List.length_append, List.length_cons, List.length_nil]; omega) | (simp [ei, eb, es, ec]; done) | simp [ei, eb, es, ec]) | first | exact rfl | exact Iff.rfl | exact ⟨rfl, rfl⟩ | exact decide_eq_true_iff | (refine ⟨?_, ?_⟩ <;> first | exact rfl | (simp only [ei, eb, es, ec, List.map_append, List.flatMap_append, List.nil_append, List.append_nil, List.append_assoc]; done) | omega | (simp only [List.nil_append, List.length_append, List.length_cons, List.length_nil]; omega) | (simp [ei, eb, es, ec]; done)) | (constructor <;> first | exact rfl | (simp only [ei, eb, es, ec, List.map_append, List.flatMap_append, List.nil_append, List.append_nil, List.append_assoc]; done) | omega | (simp only [List.nil_append, List.length_append, List.length_cons, List.length_nil]; omega) | (simp [ei, eb, es, ec]; done)) | exact rfl | (simp only [ei, eb, es, ec, List.map_append, List.flatMap_append, List.nil_append, List.append_nil, List.append_assoc]; done) | omega | (simp only [List.nil_append, List.length_append, List.length_cons, List.length_nil]; omega) | (simp [ei, eb, es, ec]; done) | simp [ei, eb, es, ec])) ?_)
              first | exact trivial | exact rfl
          · have hfin := fin_st H
            repeat (refine And.intro (Ob.mk (by first | (rw [← hfin] <;> first | exact rfl | exact Iff.rfl | exact ⟨rfl, rfl⟩ | exact decide_eq_true_iff | (refine ⟨?_, ?_⟩ <;> first | exact rfl | (simp only [ei, eb, es, ec, List.map_append, List.flatMap_append, List.nil_append, List.append_nil, List.append_assoc]; done) | omega | (simp only [List.nil_append, List.length_append, List.length_cons, List.length_nil]; omega) | (simp [ei, eb, es, ec]; done)) | (constructor <;> first | exact rfl | (simp only [ei, eb, es, ec, List.map_append, List.flatMap_append, List.nil_append, List.append_nil, List.append_assoc]; done) | omega | (simp only [List.nil_append, List.length_append, List.length_cons, List.length_nil]; omega) | (simp [ei, eb, es, ec]; done)) | exact rfl | (simp only [ei, eb, es, ec, List.map_append, List.flatMap_append, List.nil_append, List.append_nil, List.append_assoc]; done) | omega | (simp only [List.nil_append, List.length_append, List.length_cons, List.length_nil]; omega) | (simp [ei, eb, es, ec]; done) | simp [ei, eb, es, ec]) | first | exact rfl | exact Iff.rfl | exact ⟨rfl, rfl⟩ | exact decide_eq_true_iff | (refine ⟨?_, ?_⟩ <;> first | exact rfl | (simp only [ei, eb, es, ec, List.map_append, List.flatMap_append, List.nil_append, List.append_nil, List.append_assoc]; done) | omega | (simp only [List.nil_append, List.length_append, List.length_cons, List.length_nil]; omega) | (simp [ei, eb, es, ec]; done)) | (constructor <;> first | exact rfl | (simp only [ei, eb, es, ec, List.map_append, List.flatMap_append, List.nil_append, List.append_nil, List.append_assoc]; done) | omega | (simp only [List.nil_append, List.length_append, List.length_cons, List.length_nil]; omega) | (simp [ei, eb, es, ec]; done)) | exact rfl | (simp only [ei, eb, es, ec, List.map_append, List.flatMap_append, List.nil_append, List.append_nil, List.append_assoc]; done) | omega | (simp only [List.nil_append, List.length_append, List.length_cons, List.length_nil]; omega) | (simp [ei, eb, es, ec]; done) | simp [ei, eb, es, ec])) ?_)
            first | exact trivial | exact rfl
        · have hfin := fin_st H
          repeat (refine And.intro (Ob.mk (by first | (rw [← hfin] <;> first | exact rfl | exact Iff.rfl | exact ⟨rfl, rfl⟩ | exact decide_eq_true_iff | (refine ⟨?_, ?_⟩ <;> first | exact rfl | (simp only [ei, eb, es, ec, List.map_append, List.flatMap_append, List.nil_append, List.append_nil, List.append_assoc]; done) | omega | (simp only [List.nil_append, List.length_append, List.length_cons, List.length_nil]; omega) | (simp [ei, eb, es, ec]; done)) | (constructor <;> first | exact rfl | (simp only [ei, eb, es, ec, List.map_append, List.flatMap_append, List.nil_append, List.append_nil, List.append_assoc]; done) | omega | (simp only [List.nil_append, List.length_append, List.length_cons, List.length_nil]; omega) | (simp [ei, eb, es, ec]; done)) | exact rfl | (simp only [ei, eb, es, ec, List.map_append, List.flatMap_append, List.nil_append, List.append_nil, List.append_assoc]; done) | omega | (simp only [List.nil_append, List.length_append, List.length_cons, List.length_nil]; omega) | (simp [ei, eb, es, ec]; done) | simp [ei, eb, es, ec]) | first | exact rfl | exact Iff.rfl | exact ⟨rfl, rfl⟩ | exact decide_eq_true_iff | (refine ⟨?_, ?_⟩ <;> first | exact rfl | (simp only [ei, eb, es, ec, List.map_append, List.flatMap_append, List.nil_append, List.append_nil, List.append_assoc]; done) | omega | (simp only [List.nil_append, List.length_append, List.length_cons, List.length_nil]; omega) | (simp [ei, eb, es, ec]; done)) | (constructor <;> first | exact rfl | (simp only [ei, eb, es, ec, List.map_append, List.flatMap_append, List.nil_append, List.append_nil, List.append_assoc]; done) | omega | (simp only [List.nil_append, List.length_append, List.length_cons, List.length_nil]; omega) | (simp [ei, eb, es, ec]; done)) | exact rfl | (simp only [ei, eb, es, ec, List.map_append, List.flatMap_append, List.nil_append, List.append_nil, List.append_assoc]; done) | omega | (simp only [List.nil_append, List.length_append, List.length_cons, List.length_nil]; omega) | (simp [ei, eb, es, ec]; done) | simp [ei, eb, es, ec])) ?_)
          first | exact trivial | exact rfl
noncomputable def e59 (n : Nat) (a0 : List Int) : Option (Bool) :=
  ck (0 ≤ (0 : Int) ∧ 0 < ((a0.length : Nat) : Int)) <|
  (e58 n (a0.getD (0 : Int).toNat 0)).bind fun v405 =>
  if v405 < ((a0.length : Nat) : Int) then
    some false
  else
    (
      (e86 n a0).bind fun v415 =>
      if ¬ (v415 = true) then
        some false
      else
        (
          ck ((0 + a0.length) * 1 ≤ 140737488355328) <|
          ck ((0 + a0.length) * 1 ≤ 140737488355328) <|
          jn (α := _) (β := List Int × List Int) (fun k453 =>
              (itN n (σ := List Int × List Int) (ρ := List Int × List Int) (fun s456 =>
                  if ((s456.1.length : Nat) : Int) < v405 then
                    (
                      ck ((s456.1.length + 1) * 1 ≤ 140737488355328) <|
                      ck ((s456.2.length + 1) * 1 ≤ 140737488355328) <|
                      some (.go ((s456.1 ++ [128]), (s456.2 ++ [191])))
                    )
                  else
                    some (.out (s456.1, s456.2))
                ) (([] ++ a0), ([] ++ a0))).bind fun o472 =>
                k453 (o472.1, o472.2)
          ) (fun v452 =>
            (e60 n v452.1).bind fun v481 =>
            (e60 n v452.2).bind fun v483 =>
            ck (0 ≤ v405 ∧ v405 < ((5 : Nat) : Int)) <|
            if (([0, 0, 128, 2048, 65536]).getD v405.toNat 0) ≤ v483 then
              (
                if v481 ≤ 1114111 then
                  (
                    if v481 < 55296 then
                      some true
                    else
                      some (decide (57343 < v483))
                  )
                else
                  some false
              )
            else
              some false
          )
        )
    )
theorem e59_le (n : Nat) (a0 : List Int) : Le (e59 n a0) (g59 a0) := by
  unfold e59 g59
  repeat' first | exact e58_le _ _ | exact e60_le _ _ | exact e86_le _ _ | refine le_bind ?_ (fun _ => ?_) | refine le_ck ?_ | refine le_if ?_ ?_ | refine le_sm (fun _ => ?_) (fun _ => ?_) | refine le_jn (fun _ _ _ => ?_) (fun _ => ?_) | refine le_loop (fun _ => ?_) | with_reducible exact le_refl | apply_assumption

/-- placard/placardref01.Next -/
noncomputable def g16 (a0 : List Int) : Option (Int × Int × Bool) :=
  if ((a0.length : Nat) : Int) = 0 then
    some (0, 0, true)
  else
    (
      ck (0 ≤ (0 : Int) ∧ 0 < ((a0.length : Nat) : Int)) <|
      (g58 (a0.getD (0 : Int).toNat 0)).bind fun v492 =>
      jn (α := _) (β := Bool) (fun k536 =>
          if 0 < v492 then
            (
              if v492 ≤ ((a0.length : Nat) : Int) then
                (
                  ck (0 ≤ (0 : Int) ∧ (0 : Int) ≤ v492 ∧ v492 ≤ ((a0.length : Nat) : Int)) <|
                  (g59 ((a0.drop (0 : Int).toNat).take (v492.toNat - (0 : Int).toNat))).bind fun v543 =>
                  k536 v543
                )
              else
                k536 false
            )
          else
            k536 false
      ) (fun v535 =>
        if v535 = true then
          (
            ck (0 ≤ (0 : Int) ∧ (0 : Int) ≤ v492 ∧ v492 ≤ ((a0.length : Nat) : Int)) <|
            (g60 ((a0.drop (0 : Int).toNat).take (v492.toNat - (0 : Int).toNat))).bind fun v550 =>
            some (v550, v492, false)
          )
        else
          (
            if 0 < v492 then
              (
                if ((a0.length : Nat) : Int) < v492 then
                  (
                    (g59 a0).bind fun v563 =>
                    if v563 = true then
                      some (0, 0, true)
                    else
                      some (65533, 1, false)
                  )
                else
                  some (65533, 1, false)
              )
            else
              some (65533, 1, false)
          )
      )
    )
noncomputable def k16 : Eng.CS := { f := 16, calm := true, more := 0, ι := (List Int) × (Int × Int × Bool), ok := fun i => g16 i.1 = some i.2, rds := fun _ => [], args := fun i => [.sl 1 i.1.length (ei .u8 i.1)], res := fun i => .tup [.v (.int .i32 (i.2.1)), .v (.int .i64 (i.2.2.1)), bS i.2.2.2] }
set_option maxRecDepth 8000 in
set_option maxHeartbeats 4000000 in
theorem k16_ok : CalmOk Try.prog k16 := by
  refine R.calmspec Try.func16 nm16 rfl ?_
  rintro ⟨a0, r⟩ hok q _ args hargs
  match args, hargs with
  | [_], hargs =>
  obtain ⟨⟨A0, cp0, rfl, hc0, _, hR0⟩, _⟩ := hargs
  refine ⟨envC [k58, k59, k60] false [(16, 5)], 6, envC_ok (css_cons ⟨fun _ => k58_ok, fun h => (by cases h)⟩ (css_cons ⟨fun _ => k59_ok, fun h => (by cases h)⟩ (css_cons ⟨fun _ => k60_ok, fun h => (by cases h)⟩ (css_nil)))), rfl, (by intro x hx; simp only [List.mem_cons, List.not_mem_nil, or_false] at hx; rcases hx with rfl <;> rfl), ?_⟩
  have H : Gives (g16 a0) (fun a => a = r) := ⟨r, hok, rfl⟩
  unfold g16 at H
  clear hok
  refine if_st H (fun h490 H => ?_) (fun h490 H => ?_)
  · have hfin := fin_st H
    repeat (refine And.intro (Ob.mk (by first | (rw [← hfin] <;> first | exact rfl | exact Iff.rfl | exact ⟨rfl, rfl⟩ | exact decide_eq_true_iff | (refine ⟨?_, ?_⟩ <;> first | exact rfl | (simp only [ei, eb, es, ec, List.map_append, List.flatMap_append, List.nil_append, List.append_nil, List.append_assoc]; done) | omega | (simp only [List.nil_append, List.length_append, List.length_cons, List.length_nil]; omega) | (simp [ei, eb, es, ec]; done)) | (constructor <;> first | exact rfl | (simp only [ei, eb, es, ec, List.map_append, List.flatMap_append, List.nil_append, List.append_nil, List.append_assoc]; done) | omega | (simp only [List.nil_append, List.length_append, List.length_cons, List.length_nil]; omega) | (simp [ei, eb, es, ec]; done)) | exact rfl | (simp only [ei, eb, es, ec, List.map_append, List.flatMap_append, List.nil_append, List.append_nil, List.append_assoc]; done) | omega | (simp only [List.nil_append, List.length_append, List.length_cons, List.length_nil]; omega) | (simp [ei, eb, es, ec]; done) | simp [ei, eb, es, ec]) | first | exact rfl | exact Iff.rfl | exact ⟨rfl, rfl⟩ | exact decide_eq_true_iff | (refine ⟨?_, ?_⟩ <;> first | exact rfl | (simp only [ei, eb, es, ec, List.map_append, List.flatMap_append, List.nil_append, List.append_nil, List.append_assoc]; done) | omega | (simp only [List.nil_append, List.length_append, List.length_cons, List.length_nil]; omega) | (simp [ei, eb, es, ec]; done)) | (constructor <;> first | exact rfl | (simp only [ei, eb, es, ec, List.map_append, List.flatMap_append, List.nil_append, List.append_nil, List.append_assoc]; done) | omega | (simp only [List.nil_append, List.length_append, List.length_cons, List.length_nil]; omega) | (simp [ei, eb, es, ec]; done)) | exact rfl | (simp only [ei, eb, es, ec, List.map_append, List.flatMap_append, List.nil_append, List.append_nil, List.append_assoc]; done) | omega | (simp only [List.nil_append, List.length_append, List.length_cons, List.length_nil]; omega) | (simp [ei, eb, es, ec]; done) | simp [ei, eb, es, ec])) ?_)
    first | exact trivial | exact rfl
  · refine ob_ix hR0 (fun h => ei0 h) H fun h491 H => ?_
    refine ld_int (e := a0.getD (0 : Int).toNat 0) (rd_get hR0 (ei_get (l := a0) (tn h491))) ?_
    obtain ⟨v492, hv493, H⟩ := call_st H
    refine ⟨(a0.getD (0 : Int).toNat 0, v492), ⟨hv493⟩, ⟨trivial⟩, ?_⟩
    refine And.intro ⟨rfl⟩ ?_
    refine R.cut_fam H 26 [0, 5] [] (fun v535 => [(26, bS v535)]) (fun v535 => []) [] 0 (fun H => ?_)
    refine And.intro ?_ ?_
    · refine if_st H (fun h537 H => ?_) (fun h537 H => ?_)
      · refine if_st H (fun h538 H => ?_) (fun h538 H => ?_)
        · refine ob_sl hc0 H fun h539 H => ?_
          have hs540 := sl_ei hR0 rfl hc0 h539
          intro n541 hn542
          subst hn542
          obtain ⟨v543, hv544, H⟩ := call_st H
          refine ⟨(((a0.drop (0 : Int).toNat).take (v492.toNat - (0 : Int).toNat)), v543), ⟨hv544⟩, ⟨trivial⟩, ?_⟩
          refine And.intro ⟨(hs540.2.1).symm, hs540.2.2, ei_len.trans ((show _ = _ from hs540.2.1).trans (Nat.mul_one _).symm), hs540.1⟩ ?_
          refine ⟨v543, ⟨H⟩, ⟨rfl⟩, ?_⟩
          repeat (refine And.intro (Ob.mk (by first | exact rfl | exact Iff.rfl | exact ⟨rfl, rfl⟩ | exact decide_eq_true_iff | (refine ⟨?_, ?_⟩ <;> first | exact rfl | (simp only [ei, eb, es, ec, List.map_append, List.flatMap_append, List.nil_append, List.append_nil, List.append_assoc]; done) | omega | (simp only [List.nil_append, List.length_append, List.length_cons, List.length_nil]; omega) | (simp [ei, eb, es, ec]; done)) | (constructor <;> first | exact rfl | (simp only [ei, eb, es, ec, List.map_append, List.flatMap_append, List.nil_append, List.append_nil, List.append_assoc]; done) | omega | (simp only [List.nil_append, List.length_append, List.length_cons, List.length_nil]; omega) | (simp [ei, eb, es, ec]; done)) | exact rfl | (simp only [ei, eb, es, ec, List.map_append, List.flatMap_append, List.nil_append, List.append_nil, List.append_assoc]; done) | omega | (simp only [List.nil_append, List.length_append, List.length_cons, List.length_nil]; omega) | (simp [ei, eb, es, ec]; done) | simp [ei, eb, es, ec])) ?_)
          first | exact trivial | exact rfl
        · refine ⟨false, ⟨H⟩, ⟨rfl⟩, ?_⟩
          repeat (refine And.intro (Ob.mk (by first | exact rfl | exact Iff.rfl | exact ⟨rfl, rfl⟩ | exact decide_eq_true_iff | (refine ⟨?_, ?_⟩ <;> first | exact rfl | (simp only [ei, eb, es, ec, List.map_append, List.flatMap_append, List.nil_append, List.append_nil, List.append_assoc]; done) | omega | (simp only [List.nil_append, List.length_append, List.length_cons, List.length_nil]; omega) | (simp [ei, eb, es, ec]; done)) | (constructor <;> first | exact rfl | (simp only [ei, eb, es, ec, List.map_append, List.flatMap_append, List.nil_append, List.append_nil, List.append_assoc]; done) | omega | (simp only [List.nil_append, List.length_append, List.length_cons, List.length_nil]; omega) | (simp [ei, eb, es, ec]; done)) | exact rfl | (simp only [ei, eb, es, ec, List.map_append, List.flatMap_append, List.nil_append, List.append_nil, List.append_assoc]; done) | omega | (simp only [List.nil_append, List.length_append, List.length_cons, List.length_nil]; omega) | (simp [ei, eb, es, ec]; done) | simp [ei, eb, es, ec])) ?_)
          first | exact trivial | exact rfl
      · refine ⟨false, ⟨H⟩, ⟨rfl⟩, ?_⟩
        repeat (refine And.intro (Ob.mk (by first | exact rfl | exact Iff.rfl | exact ⟨rfl, rfl⟩ | exact decide_eq_true_iff | (refine ⟨?_, ?_⟩ <;> first | exact rfl | (simp only [ei, eb, es, ec, List.map_append, List.flatMap_append, List.nil_append, List.append_nil, List.append_assoc]; done) | omega | (simp only [List.nil_append, List.length_append, List.length_cons, List.length_nil]; omega) | (simp [ei, eb, es, ec]; done)) | (constructor <;> first | exact rfl | (simp only [ei, eb, es, ec, List.map_append, List.flatMap_append, List.nil_append, List.append_nil, List.append_assoc]; done) | omega | (simp only [List.nil_append, List.length_append, List.length_cons, List.length_nil]; omega) | (simp [ei, eb, es, ec]; done)) | exact rfl | (simp only [ei, eb, es, ec, List.map_append, List.flatMap_append, List.nil_append, List.append_nil, List.append_assoc]; done) | omega | (simp only [List.nil_append, List.length_append, List.length_cons, List.length_nil]; omega) | (simp [ei, eb, es, ec]; done) | simp [ei, eb, es, ec])) ?_)
        first | exact trivial | exact rfl
    · intro v535 H
      refine if_st H (fun h545 H => ?_) (fun h545 H => ?_)
      · refine ob_sl hc0 H fun h546 H => ?_
        have hs547 := sl_ei hR0 rfl hc0 h546
        intro n548 hn549
        subst hn549
        obtain ⟨v550, hv551, H⟩ := call_st H
        refine ⟨(((a0.drop (0 : Int).toNat).take (v492.toNat - (0 : Int).toNat)), v550), ⟨hv551⟩, ⟨trivial⟩, ?_⟩
        refine And.intro ⟨(hs547.2.1).symm, hs547.2.2, ei_len.trans ((show _ = _ from hs547.2.1).trans (Nat.mul_one _).symm), hs547.1⟩ ?_
        have hfin := fin_st H
        repeat (refine And.intro (Ob.mk (by first | (rw [← hfin] <;> first | exact rfl | exact Iff.rfl | exact ⟨rfl, rfl⟩ | exact decide_eq_true_iff | (refine ⟨?_, ?_⟩ <;> first | exact rfl | (simp only [ei, eb, es, ec, List.map_append, List.flatMap_append, List.nil_append, List.append_nil, List.append_assoc]; done) | omega | (simp only [List.nil_append, List.length_append, List.length_cons, List.length_nil]; omega) | (simp [ei, eb, es, ec]; done)) | (constructor <;> first | exact rfl | (simp only [ei, eb, es, ec, List.map_append, List.flatMap_append, List.nil_append, List.append_nil, List.append_assoc]; done) | omega | (simp only [List.nil_append, List.length_append, List.length_cons, List.length_nil]; omega) | (simp [ei, eb, es, ec]; done)) | exact rfl | (simp only [ei, eb, es, ec, List.map_append, List.flatMap_append, List.nil_append, List.append_nil, List.append_assoc]; done) | omega | (simp only [List.nil_append, List.length_append, List.length_cons, List.length_nil]; omega) | (simp [ei, eb, es, ec]; done) | simp [ei, eb, es, ec]) | first | exact rfl | exact Iff.rfl | exact ⟨rfl, rfl⟩ | exact decide_eq_true_iff | (refine ⟨?_, ?_⟩ <;> first | exact rfl | (simp only [ei, eb, es, ec, List.map_append, List.flatMap_append, List.nil_append, List.append_nil, List.append_assoc]; done) | omega | (simp only [List.nil_append, List.length_append, List.length_cons, List.length_nil]; omega) | (simp [ei, eb, es, ec]; done)) | (constructor <;> first | exact rfl | (simp only [ei, eb, es, ec, List.map_append, List.flatMap_append, List.nil_append, List.append_nil, List.append_assoc]; done) | omega | (simp only [List.nil_append, List.length_append, List.length_cons, List.length_nil]; omega) | (simp [ei, eb, es, ec]; done)) | exact rfl | (simp only [ei, eb, es, ec, List.map_append, List.flatMap_append, List.nil_append, List.append_nil, List.append_assoc]; done) | omega | (simp only [List.nil_append, List.length_append, List.length_cons, List.length_nil]; omega) | (simp [ei, eb, es, ec]; done) | simp [ei, eb, es, ec])) ?_)
        first | exact trivial | exact rfl
      · refine if_st H (fun h561 H => ?_) (fun h561 H => ?_)
        · refine if_st H (fun h562 H => ?_) (fun h562 H => ?_)
          · obtain ⟨v563, hv564, H⟩ := call_st H
            refine ⟨(a0, v563), ⟨hv564⟩, ⟨trivial⟩, ?_⟩
            refine And.intro ⟨rfl, hc0, ei_len.trans ((show _ = _ from rfl).trans (Nat.mul_one _).symm), hR0⟩ ?_
            refine if_st H (fun h565 H => ?_) (fun h565 H => ?_)
            · have hfin := fin_st H
              repeat (refine And.intro (Ob.mk (by first | (rw [← hfin] <;> first | exact rfl | exact Iff.rfl | exact ⟨rfl, rfl⟩ | exact decide_eq_true_iff | (refine ⟨?_, ?_⟩ <;> first | exact rfl | (simp only [ei, eb, es, ec, List.map_append, List.flatMap_append, List.nil_append, List.append_nil, List.append_assoc]; done) | omega | (simp only [List.nil_append, List.length_append, List.length_cons, List.length_nil]; omega) | (simp [ei, eb, es, ec]; done)) | (constructor <;> first | exact rfl | (simp only [ei, eb, es, ec, List.map_append, List.flatMap_append, List.nil_append, List.append_nil, List.append_assoc]; done) | omega | (simp only [List.nil_append, List.length_append, List.length_cons, List.length_nil]; omega) | (simp [ei, eb, es, ec]; done)) | exact rfl | (simp only [ei, eb, es, ec, List.map_append, List.flatMap_append, List.nil_append, List.append_nil, List.append_assoc]; done) | omega | (simp only [List.nil_append, List.length_append, List.length_cons, List.length_nil]; omega) | (simp [ei, eb, es, ec]; done) | simp [ei, eb, es, ec]) | first | exact rfl | exact Iff.rfl | exact ⟨rfl, rfl⟩ | exact decide_eq_true_iff | (refine ⟨?_, ?_⟩ <;> first | exact rfl | (simp only [ei, eb, es, ec, List.map_append, List.flatMap_append, List.nil_append, List.append_nil, List.append_assoc]; done) | omega | (simp only [List.nil_append, List.length_append, List.length_cons, List.length_nil]; omega) | (simp [ei, eb, es, ec]; done)) | (constructor <;> first | exact rfl | (simp only [ei, eb, es, ec, List.map_append, List.flatMap_append, List.nil_append, List.append_nil, List.append_assoc]; done) | omega | (simp only [List.nil_append, List.length_append, List.length_cons, List.length_nil]; omega) | (simp [ei, eb, es, ec]; done)) | exact rfl | (simp only [ei, eb, es, ec, List.map_append, List.flatMap_append, List.nil_append, List.append_nil, List.append_assoc]; done) | omega | (simp only [List.nil_append, List.length_append, List.length_cons, List.length_nil]; omega) | (simp [ei, eb, es, ec]; done) | simp [ei, eb, es, ec])) ?_)
              first | exact trivial | exact rfl
            · have hfin := fin_st H
              repeat (refine And.intro (Ob.mk (by first | (rw [← hfin] <;> first | exact rfl | exact Iff.rfl | exact ⟨rfl, rfl⟩ | exact decide_eq_true_iff | (refine ⟨?_, ?_⟩ <;> first | exact rfl | (simp only [ei, eb, es, ec, List.map_append, List.flatMap_append, List.nil_append, List.append_nil, List.append_assoc]; done) | omega | (simp only [List.nil_append, List.length_append, List.length_cons, List.length_nil]; omega) | (simp [ei, eb, es, ec]; done)) | (constructor <;> first | exact rfl | (simp only [ei, eb, es, ec, List.map_append, List.flatMap_append, List.nil_append, List.append_nil, List.append_assoc]; done) | omega | (simp only [List.nil_append, List.length_append, List.length_cons, List.length_nil]; omega) | (simp [ei, eb, es, ec]; done)) | exact rfl | (simp only [ei, eb, es, ec, List.map_append, List.flatMap_append, List.nil_append, List.append_nil, List.append_assoc]; done) | omega | (simp only [List.nil_append, List.length_append, List.length_cons, List.length_nil]; omega) | (simp [ei, eb, es, ec]; done) | simp [ei, eb, es, ec]) | first | exact rfl | exact Iff.rfl | exact ⟨rfl, rfl⟩ | exact decide_eq_true_iff | (refine ⟨?_, ?_⟩ <;> first | exact rfl | (simp only [ei, eb, es, ec, List.map_append, List.flatMap_append, List.nil_append, List.append_nil, List.append_assoc]; done) | omega | (simp only [List.nil_append, List.length_append, List.length_cons, List.length_nil]; omega) | (simp [ei, eb, es, ec]; done)) | (constructor <;> first | exact rfl | (simp only [ei, eb, es, ec, List.map_append, List.flatMap_append, List.nil_append, List.append_nil, List.append_assoc]; done) | omega | (simp only [List.nil_append, List.length_append, List.length_cons, List.length_nil]; omega) | (simp [ei, eb, es, ec]; done)) | exact rfl | (simp only [ei, eb, es, ec, List.map_append, List.flatMap_append, List.nil_append, List.append_nil, List.append_assoc]; done) | omega | (simp only [List.nil_append, List.length_append, List.length_cons, List.length_nil]; omega) | (simp [ei, eb, es, ec]; done) | simp [ei, eb, es, ec])) ?_)
              first | exact trivial | exact rfl
          · have hfin := fin_st H
            repeat (refine And.intro (Ob.mk (by first | (rw [← hfin] <;> first | exact rfl | exact Iff.rfl | exact ⟨rfl, rfl⟩ | exact decide_eq_true_iff | (refine ⟨?_, ?_⟩ <;> first | exact rfl | (simp only [ei, eb, es, ec, List.map_append, List.flatMap_append, List.nil_append, List.append_nil, List.append_assoc]; done) | omega | (simp only [List.nil_append, List.length_append, List.length_cons, List.length_nil]; omega) | (simp [ei, eb, es, ec]; done)) | (constructor <;> first | exact rfl | (simp only [ei, eb, es, ec, List.map_append, List.flatMap_append, List.nil_append, List.append_nil, List.append_assoc]; done) | omega | (simp only [List.nil_append, List.length_append, List.length_cons, List.length_nil]; omega) | (simp [ei, eb, es, ec]; done)) | exact rfl | (simp only [ei, eb, es, ec, List.map_append, List.flatMap_append, List.nil_append, List.append_nil, List.append_assoc]; done) | omega | (simp only [List.nil_append, List.length_append, List.length_cons, List.length_nil]; omega) | (simp [ei, eb, es, ec]; done) | simp [ei, eb, es, ec]) | first | exact rfl | exact Iff.rfl | exact ⟨rfl, rfl⟩ | exact decide_eq_true_iff | (refine ⟨?_, ?_⟩ <;> first | exact rfl | (simp only [ei, eb, es, ec, List.map_append, List.flatMap_append, List.nil_append, List.append_nil, List.append_assoc]; done) | omega | (simp only [List.nil_append, List.length_append, List.length_cons, List.length_nil]; omega) | (simp [ei, eb, es, ec]; done)) | (constructor <;> first | exact rfl | (simp only [ei, eb, es, ec, List.map_append, List.flatMap_append, List.nil_append, List.append_nil, List.append_assoc]; done) | omega | (simp only [List.nil_append, List.length_append, List.length_cons, List.length_nil]; omega) | (simp [ei, eb, es, ec]; done)) | exact rfl | (simp only [ei, eb, es, ec, List.map_append, List.flatMap_append, List.nil_append, List.append_nil, List.append_assoc]; done) | omega | (simp only [List.nil_append, List.length_append, List.length_cons, List.length_nil]; omega) | (simp [ei, eb, es, ec]; done) | simp [ei, eb, es, ec])) ?_)
            first | exact trivial | exact rfl
        · have hfin := fin_st H
          repeat (refine And.intro (Ob.mk (by first | (rw [← hfin] <;> first | exact rfl | exact Iff.rfl | exact ⟨rfl, rfl⟩ | exact decide_eq_true_iff | (refine ⟨?_, ?_⟩ <;> first | exact rfl | (simp only [ei, eb, es, ec, List.map_append, List.flatMap_append, List.nil_append, List.append_nil, List.append_assoc]; done) | omega | (simp only [List.nil_append, List.length_append, List.length_cons, List.length_nil]; omega) | (simp [ei, eb, es, ec]; done)) | (constructor <;> first | exact rfl | (simp only [ei, eb, es, ec, List.map_append, List.flatMap_append, List.nil_append, List.append_nil, List.append_assoc]; done) | omega | (simp only [List.nil_append, List.length_append, List.length_cons, List.length_nil]; omega) | (simp [ei, eb, es, ec]; done)) | exact rfl | (simp only [ei, eb, es, ec, List.map_append, List.flatMap_append, List.nil_append, List.append_nil, List.append_assoc]; done) | omega | (simp only [List.nil_append, List.length_append, List.length_cons, List.length_nil]; omega) | (simp [ei, eb, es, ec]; done) | simp [ei, eb, es, ec]) | first | exact rfl | exact Iff.rfl | exact ⟨rfl, rfl⟩ | exact decide_eq_true_iff | (refine ⟨?_, ?_⟩ <;> first | exact rfl | (simp only [ei, eb, es, ec, List.map_append, List.flatMap_append, List.nil_append, List.append_nil, List.append_assoc]; done) | omega | (simp only [List.nil_append, List.length_append, List.length_cons, List.length_nil]; omega) | (simp [ei, eb, es, ec]; done)) | (constructor <;> first | exact rfl | (simp only [ei, eb, es, ec, List.map_append, List.flatMap_append, List.nil_append, List.append_nil, List.append_assoc]; done) | omega | (simp only [List.nil_append, List.length_append, List.length_cons, List.length_nil]; omega) | (simp [ei, eb, es, ec]; done)) | exact rfl | (simp only [ei, eb, es, ec, List.map_append, List.flatMap_append, List.nil_append, List.append_nil, List.append_assoc]; done) | omega | (simp only [List.nil_append, List.length_append, List.length_cons, List.length_nil]; omega) | (simp [ei, eb, es, ec]; done) | simp [ei, eb, es, ec])) ?_)
          first | exact trivial | exact rfl
noncomputable def e16 (n : Nat) (a0 : List Int) : Option (Int × Int × Bool) :=
  if ((a0.length : Nat) : Int) = 0 then
    some (0, 0, true)
  else
    (
      ck (0 ≤ (0 : Int) ∧ 0 < ((a0.length : Nat) : Int)) <|
      (e58 n (a0.getD (0 : Int).toNat 0)).bind fun v492 =>
      jn (α := _) (β := Bool) (fun k536 =>
          if 0 < v492 then
            (
              if v492 ≤ ((a0.length : Nat) : Int) then
                (
                  ck (0 ≤ (0 : Int) ∧ (0 : Int) ≤ v492 ∧ v492 ≤ ((a0.length : Nat) : Int)) <|
                  (e59 n ((a0.drop (0 : Int).toNat).take (v492.toNat - (0 : Int).toNat))).bind fun v543 =>
                  k536 v543
                )
              else
                k536 false
            )
          else
            k536 false
      ) (fun v535 =>
        if v535 = true then
          (
            ck (0 ≤ (0 : Int) ∧ (0 : Int) ≤ v492 ∧ v492 ≤ ((a0.length : Nat) : Int)) <|
            (e60 n ((a0.drop (0 : Int).toNat).take (v492.toNat - (0 : Int).toNat))).bind fun v550 =>
            some (v550, v492, false)
          )
        else
          (
            if 0 < v492 then
              (
                if ((a0.length : Nat) : Int) < v492 then
                  (
                    (e59 n a0).bind fun v563 =>
                    if v563 = true then
                      some (0, 0, true)
                    else
                      some (65533, 1, false)
                  )
                else
                  some (65533, 1, false)
              )
            else
              some (65533, 1, false)
          )
      )
    )
theorem e16_le (n : Nat) (a0 : List Int) : Le (e16 n a0) (g16 a0) := by
  unfold e16 g16
  repeat' first | exact e58_le _ _ | exact e59_le _ _ | exact e60_le _ _ | refine le_bind ?_ (fun _ => ?_) | refine le_ck ?_ | refine le_if ?_ ?_ | refine le_sm (fun _ => ?_) (fun _ => ?_) | refine le_jn (fun _ _ _ => ?_) (fun _ => ?_) | refine le_loop (fun _ => ?_) | with_reducible exact le_refl | apply_assumption

/-- placard/placardlaw01.awake -/
noncomputable def g20  : Option (Bool) :=
  (g15 ([226, 130])).bind fun v566 =>
  (g15 ([226, 130, 172])).bind fun v568 =>
  (g15 ([226, 65])).bind fun v570 =>
  if v566.2.2 = true then
    (
      if v568.1 = 8364 then
        (
          if v568.2.1 = 3 then
            (
              if v570.1 = 65533 then
                (
                  if v570.2.1 = 1 then
                    (
                      (g17 8364).bind fun v577 =>
                      ck (isBytes v577) <|
                      some (decide ((strOf v577).data.toList = (lit [226, 130, 172]).data.toList))
                    )
                  else
                    some false
                )
              else
                some false
            )
          else
            some false
        )
      else
        some false
    )
  else
    some false
noncomputable def k20 : Eng.CS := { f := 20, calm := true, more := 0, ι := Bool, ok := fun i => g20  = some i, rds := fun _ => [], args := fun i => [], res := fun i => bS i }
set_option maxRecDepth 8000 in
set_option maxHeartbeats 4000000 in
theorem k20_ok : CalmOk Try.prog k20 := by
  refine R.calmspec Try.func20 nm20 rfl ?_
  rintro r hok q _ args hargs
  match args, hargs with
  | [], hargs =>
  refine ⟨envC [k15, k17] false [], 6, envC_ok (css_cons ⟨fun _ => k15_ok, fun h => (by cases h)⟩ (css_cons ⟨fun h => (by cases h), fun _ => k17_ok⟩ (css_nil))), rfl, (by intro x hx; cases hx), ?_⟩
  have H : Gives (g20 ) (fun a => a = r) := ⟨r, hok, rfl⟩
  unfold g20 at H
  clear hok
  obtain ⟨v566, hv567, H⟩ := call_st H
  refine ⟨([226, 130], v566), ⟨hv567⟩, ⟨trivial⟩, ?_⟩
  refine And.intro ⟨by first | rfl | (simp; done), by first | rfl | (simp [ei, eb, es, ec]; done) | (simp only [ei, eb, es, ec, List.map_append, List.nil_append, List.append_assoc]; rfl)⟩ ?_
  obtain ⟨v568, hv569, H⟩ := call_st H
  refine ⟨([226, 130, 172], v568), ⟨hv569⟩, ⟨trivial⟩, ?_⟩
  refine And.intro ⟨by first | rfl | (simp; done), by first | rfl | (simp [ei, eb, es, ec]; done) | (simp only [ei, eb, es, ec, List.map_append, List.nil_append, List.append_assoc]; rfl)⟩ ?_
  obtain ⟨v570, hv571, H⟩ := call_st H
  refine ⟨([226, 65], v570), ⟨hv571⟩, ⟨trivial⟩, ?_⟩
  refine And.intro ⟨by first | rfl | (simp; done), by first | rfl | (simp [ei, eb, es, ec]; done) | (simp only [ei, eb, es, ec, List.map_append, List.nil_append, List.append_assoc]; rfl)⟩ ?_
  refine if_st H (fun h572 H => ?_) (fun h572 H => ?_)
  · refine if_st H (fun h573 H => ?_) (fun h573 H => ?_)
    · refine if_st H (fun h574 H => ?_) (fun h574 H => ?_)
      · refine if_st H (fun h575 H => ?_) (fun h575 H => ?_)
        · refine if_st H (fun h576 H => ?_) (fun h576 H => ?_)
          · obtain ⟨v577, hv578, H⟩ := call_st H
            refine ⟨(8364, v577), ⟨hv578⟩, ⟨trivial⟩, ?_⟩
            refine And.intro ⟨rfl⟩ ?_
            refine ob_str (l := v577) H fun h579 H => ?_
            have hfin := fin_st H
            repeat (refine And.intro (Ob.mk (by first | (rw [← hfin] <;> first | exact rfl | exact Iff.rfl | exact ⟨rfl, rfl⟩ | exact decide_eq_true_iff | (refine ⟨?_, ?_⟩ <;> first | exact rfl | (simp only [ei, eb, es, ec, List.map_append, List.flatMap_append, List.nil_append, List.append_nil, List.append_assoc]; done) | omega | (simp only [List.nil_append, List.length_append, List.length_cons, List.length_nil]; omega) | (simp [ei, eb, es, ec]; done)) | (constructor <;> first | exact rfl | (simp only [ei, eb, es, ec, List.map_append, List.flatMap_append, List.nil_append, List.append_nil, List.append_assoc]; done) | omega | (simp only [List.nil_append, List.length_append, List.length_cons, List.length_nil]; omega) | (simp [ei, eb, es, ec]; done)) | exact rfl | (simp only [ei, eb, es, ec, List.map_append, List.flatMap_append, List.nil_append, List.append_nil, List.append_assoc]; done) | omega | (simp only [List.nil_append, List.length_append, List.length_cons, List.length_nil]; omega) | (simp [ei, eb, es, ec]; done) | simp [ei, eb, es, ec]) | first | exact rfl | exact Iff.rfl | exact ⟨rfl, rfl⟩ | exact decide_eq_true_iff | (refine ⟨?_, ?_⟩ <;> first | exact rfl | (simp only [ei, eb, es, ec, List.map_append, List.flatMap_append, List.nil_append, List.append_nil, List.append_assoc]; done) | omega | (simp only [List.nil_append, List.length_append, List.length_cons, List.length_nil]; omega) | (simp [ei, eb, es, ec]; done)) | (constructor <;> first | exact rfl | (simp only [ei, eb, es, ec, List.map_append, List.flatMap_append, List.nil_append, List.append_nil, List.append_assoc]; done) | omega | (simp only [List.nil_append, List.length_append, List.length_cons, List.length_nil]; omega) | (simp [ei, eb, es, ec]; done)) | exact rfl | (simp only [ei, eb, es, ec, List.map_append, List.flatMap_append, List.nil_append, List.append_nil, List.append_assoc]; done) | omega | (simp only [List.nil_append, List.length_append, List.length_cons, List.length_nil]; omega) | (simp [ei, eb, es, ec]; done) | simp [ei, eb, es, ec])) ?_)
            first | exact trivial | exact rfl
          · have hfin := fin_st H
            repeat (refine And.intro (Ob.mk (by first | (rw [← hfin] <;> first | exact rfl | exact Iff.rfl | exact ⟨rfl, rfl⟩ | exact decide_eq_true_iff | (refine ⟨?_, ?_⟩ <;> first | exact rfl | (simp only [ei, eb, es, ec, List.map_append, List.flatMap_append, List.nil_append, List.append_nil, List.append_assoc]; done) | omega | (simp only [List.nil_append, List.length_append, List.length_cons, List.length_nil]; omega) | (simp [ei, eb, es, ec]; done)) | (constructor <;> first | exact rfl | (simp only [ei, eb, es, ec, List.map_append, List.flatMap_append, List.nil_append, List.append_nil, List.append_assoc]; done) | omega | (simp only [List.nil_append, List.length_append, List.length_cons, List.length_nil]; omega) | (simp [ei, eb, es, ec]; done)) | exact rfl | (simp only [ei, eb, es, ec, List.map_append, List.flatMap_append, List.nil_append, List.append_nil, List.append_assoc]; done) | omega | (simp only [List.nil_append, List.length_append, List.length_cons, List.length_nil]; omega) | (simp [ei, eb, es, ec]; done) | simp [ei, eb, es, ec]) | first | exact rfl | exact Iff.rfl | exact ⟨rfl, rfl⟩ | exact decide_eq_true_iff | (refine ⟨?_, ?_⟩ <;> first | exact rfl | (simp only [ei, eb, es, ec, List.map_append, List.flatMap_append, List.nil_append, List.append_nil, List.append_assoc]; done) | omega | (simp only [List.nil_append, List.length_append, List.length_cons, List.length_nil]; omega) | (simp [ei, eb, es, ec]; done)) | (constructor <;> first | exact rfl | (simp only [ei, eb, es, ec, List.map_append, List.flatMap_append, List.nil_append, List.append_nil, List.append_assoc]; done) | omega | (simp only [List.nil_append, List.length_append, List.length_cons, List.length_nil]; omega) | (simp [ei, eb, es, ec]; done)) | exact rfl | (simp only [ei, eb, es, ec, List.map_append, List.flatMap_append, List.nil_append, List.append_nil, List.append_assoc]; done) | omega | (simp only [List.nil_append, List.length_append, List.length_cons, List.length_nil]; omega) | (simp [ei, eb, es, ec]; done) | simp [ei, eb, es, ec])) ?_)
            first | exact trivial | exact rfl
        · have hfin := fin_st H
          repeat (refine And.intro (Ob.mk (by first | (rw [← hfin] <;> first | exact rfl | exact Iff.rfl | exact ⟨rfl, rfl⟩ | exact decide_eq_true_iff | (refine ⟨?_, ?_⟩ <;> first | exact rfl | (simp only [ei, eb, es, ec, List.map_append, List.flatMap_append, List.nil_append, List.append_nil, List.append_assoc]; done) | omega | (simp only [List.nil_append, List.length_append, List.length_cons, List.length_nil]; omega) | (simp [ei, eb, es, ec]; done)) | (constructor <;> first | exact rfl | (simp only [ei, eb, es, ec, List.map_append, List.flatMap_append, List.nil_append, List.append_nil, List.append_assoc]; done) | omega | (simp only [List.nil_append, List.length_append, List.length_cons, List.length_nil]; omega) | (simp [ei, eb, es, ec]; done)) | exact rfl | (simp only [ei, eb, es, ec, List.map_append, List.flatMap_append, List.nil_append, List.append_nil, List.append_assoc]; done) | omega | (simp only [List.nil_append, List.length_append, List.length_cons, List.length_nil]; omega) | (simp [ei, eb, es, ec]; done) | simp [ei, eb, es, ec]) | first | exact rfl | exact Iff.rfl | exact ⟨rfl, rfl⟩ | exact decide_eq_true_iff | (refine ⟨?_, ?_⟩ <;> first | exact rfl | (simp only [ei, eb, es, ec, List.map_append, List.flatMap_append, List.nil_append, List.append_nil, List.append_assoc]; done) | omega | (simp only [List.nil_append, List.length_append, List.length_cons, List.length_nil]; omega) | (simp [ei, eb, es, ec]; done)) | (constructor <;> first | exact rfl | (simp only [ei, eb, es, ec, List.map_append, List.flatMap_append, List.nil_append, List.append_nil, List.append_assoc]; done) | omega | (simp only [List.nil_append, List.length_append, List.length_cons, List.length_nil]; omega) | (simp [ei, eb, es, ec]; done)) | exact rfl | (simp only [ei, eb, es, ec, List.map_append, List.flatMap_append, List.nil_append, List.append_nil, List.append_assoc]; done) | omega | (simp only [List.nil_append, List.length_append, List.length_cons, List.length_nil]; omega) | (simp [ei, eb, es, ec]; done) | simp [ei, eb, es, ec])) ?_)
          first | exact trivial | exact rfl
      · have hfin := fin_st H
        repeat (refine And.intro (Ob.mk (by first | (rw [← hfin] <;> first | exact rfl | exact Iff.rfl | exact ⟨rfl, rfl⟩ | exact decide_eq_true_iff | (refine ⟨?_, ?_⟩ <;> first | exact rfl | (simp only [ei, eb, es, ec, List.map_append, List.flatMap_append, List.nil_append, List.append_nil, List.append_assoc]; done) | omega | (simp only [List.nil_append, List.length_append, List.length_cons, List.length_nil]; omega) | (simp [ei, eb, es, ec]; done)) | (constructor <;> first | exact rfl | (simp only [ei, eb, es, ec, List.map_append, List.flatMap_append, List.nil_append, List.append_nil, List.append_assoc]; done) | omega | (simp only [List.nil_append, List.length_append, List.length_cons, List.length_nil]; omega) | (simp [ei, eb, es, ec]; done)) | exact rfl | (simp only [ei, eb, es, ec, List.map_append, List.flatMap_append, List.nil_append, List.append_nil, List.append_assoc]; done) | omega | (simp only [List.nil_append, List.length_append, List.length_cons, List.length_nil]; omega) | (simp [ei, eb, es, ec]; done) | simp [ei, eb, es, ec]) | first | exact rfl | exact Iff.rfl | exact ⟨rfl, rfl⟩ | exact decide_eq_true_iff | (refine ⟨?_, ?_⟩ <;> first | exact rfl | (simp only [ei, eb, es, ec, List.map_append, List.flatMap_append, List.nil_append, List.append_nil, List.append_assoc]; done) | omega | (simp only [List.nil_append, List.length_append, List.length_cons, List.length_nil]; omega) | (simp [ei, eb, es, ec]; done)) | (constructor <;> first | exact rfl | (simp only [ei, eb, es, ec, List.map_append, List.flatMap_append, List.nil_append, List.append_nil, List.append_assoc]; done) | omega | (simp only [List.nil_append, List.length_append, List.length_cons, List.length_nil]; omega) | (simp [ei, eb, es, ec]; done)) | exact rfl | (simp only [ei, eb, es, ec, List.map_append, List.flatMap_append, List.nil_append, List.append_nil, List.append_assoc]; done) | omega | (simp only [List.nil_append, List.length_append, List.length_cons, List.length_nil]; omega) | (simp [ei, eb, es, ec]; done) | simp [ei, eb, es, ec])) ?_)
        first | exact trivial | exact rfl
    · have hfin := fin_st H
      repeat (refine And.intro (Ob.mk (by first | (rw [← hfin] <;> first | exact rfl | exact Iff.rfl | exact ⟨rfl, rfl⟩ | exact decide_eq_true_iff | (refine ⟨?_, ?_⟩ <;> first | exact rfl | (simp only [ei, eb, es, ec, List.map_append, List.flatMap_append, List.nil_append, List.append_nil, List.append_assoc]; done) | omega | (simp only [List.nil_append, List.length_append, List.length_cons, List.length_nil]; omega) | (simp [ei, eb, es, ec]; done)) | (constructor <;> first | exact rfl | (simp only [ei, eb, es, ec, List.map_append, List.flatMap_append, List.nil_append, List.append_nil, List.append_assoc]; done) | omega | (simp only [List.nil_append, List.length_append, List.length_cons, List.length_nil]; omega) | (simp [ei, eb, es, ec]; done)) | exact rfl | (simp only [ei, eb, es, ec, List.map_append, List.flatMap_append, List.nil_append, List.append_nil, List.append_assoc]; done) | omega | (simp only [List.nil_append, List.length_append, List.length_cons, List.length_nil]; omega) | (simp [ei, eb, es, ec]; done) | simp [ei, eb, es, ec]) | first | exact rfl | exact Iff.rfl | exact ⟨rfl, rfl⟩ | exact decide_eq_true_iff | (refine ⟨?_, ?_⟩ <;> first | exact rfl | (simp only [ei, eb, es, ec, List.map_append, List.flatMap_append, List.nil_append, List.append_nil, List.append_assoc]; done) | omega | (simp only [List.nil_append, List.length_append, List.length_cons, List.length_nil]; omega) | (simp [ei, eb, es, ec]; done)) | (constructor <;> first | exact rfl | (simp only [ei, eb, es, ec, List.map_append, List.flatMap_append, List.nil_append, List.append_nil, List.append_assoc]; done) | omega | (simp only [List.nil_append, List.length_append, List.length_cons, List.length_nil]; omega) | (simp [ei, eb, es, ec]; done)) | exact rfl | (simp only [ei, eb, es, ec, List.map_append, List.flatMap_append, List.nil_append, List.append_nil, List.append_assoc]; done) | omega | (simp only [List.nil_append, List.length_append, List.length_cons, List.length_nil]; omega) | (simp [ei, eb, es, ec]; done) | simp [ei, eb, es, ec])) ?_)
      first | exact trivial | exact rfl
  · have hfin := fin_st H
    repeat (refine And.intro (Ob.mk (by first | (rw [← hfin] <;> first | exact rfl | exact Iff.rfl | exact ⟨rfl, rfl⟩ | exact decide_eq_true_iff | (refine ⟨?_, ?_⟩ <;> first | exact rfl | (simp only [ei, eb, es, ec, List.map_append, List.flatMap_append, List.nil_append, List.append_nil, List.append_assoc]; done) | omega | (simp only [List.nil_append, List.length_append, List.length_cons, List.length_nil]; omega) | (simp [ei, eb, es, ec]; done)) | (constructor <;> first | exact rfl | (simp only [ei, eb, es, ec, List.map_append, List.flatMap_append, List.nil_append, List.append_nil, List.append_assoc]; done) | omega | (simp only [List.nil_append, List.length_append, List.length_cons, List.length_nil]; omega) | (simp [ei, eb, es, ec]; done)) | exact rfl | (simp only [ei, eb, es, ec, List.map_append, List.flatMap_append, List.nil_append, List.append_nil, List.append_assoc]; done) | omega | (simp only [List.nil_append, List.length_append, List.length_cons, List.length_nil]; omega) | (simp [ei, eb, es, ec]; done) | simp [ei, eb, es, ec]) | first | exact rfl | exact Iff.rfl | exact ⟨rfl, rfl⟩ | exact decide_eq_true_iff | (refine ⟨?_, ?_⟩ <;> first | exact rfl | (simp only [ei, eb, es, ec, List.map_append, List.flatMap_append, List.nil_append, List.append_nil, List.append_assoc]; done) | omega | (simp only [List.nil_append, List.length_append, List.length_cons, List.length_nil]; omega) | (simp [ei, eb, es, ec]; done)) | (constructor <;> first | exact rfl | (simp only [ei, eb, es, ec, List.map_append, List.flatMap_append, List.nil_append, List.append_nil, List.append_assoc]; done) | omega | (simp only [List.nil_append, List.length_append, List.length_cons, List.length_nil]; omega) | (simp [ei, eb, es, ec]; done)) | exact rfl | (simp only [ei, eb, es, ec, List.map_append, List.flatMap_append, List.nil_append, List.append_nil, List.append_assoc]; done) | omega | (simp only [List.nil_append, List.length_append, List.length_cons, List.length_nil]; omega) | (simp [ei, eb, es, ec]; done) | simp [ei, eb, es, ec])) ?_)
    first | exact trivial | exact rfl
noncomputable def e20 (n : Nat)  : Option (Bool) :=
  (e15 n ([226, 130])).bind fun v566 =>
  (e15 n ([226, 130, 172])).bind fun v568 =>
  (e15 n ([226, 65])).bind fun v570 =>
  if v566.2.2 = true then
    (
      if v568.1 = 8364 then
        (
          if v568.2.1 = 3 then
            (
              if v570.1 = 65533 then
                (
                  if v570.2.1 = 1 then
                    (
                      (e17 n 8364).bind fun v577 =>
                      ck (isBytes v577) <|
                      some (decide ((strOf v577).data.toList = (lit [226, 130, 172]).data.toList))
                    )
                  else
                    some false
                )
              else
                some false
            )
          else
            some false
        )
      else
        some false
    )
  else
    some false
theorem e20_le (n : Nat)  : Le (e20 n ) (g20 ) := by
  unfold e20 g20
  repeat' first | exact e15_le _ _ | exact e17_le _ _ | refine le_bind ?_ (fun _ => ?_) | refine le_ck ?_ | refine le_if ?_ ?_ | refine le_sm (fun _ => ?_) (fun _ => ?_) | refine le_jn (fun _ _ _ => ?_) (fun _ => ?_) | refine le_loop (fun _ => ?_) | with_reducible exact le_refl | apply_assumption

/-- placard/placardlaw01.RunesNext -/
noncomputable def g3 (a0 : List Int) (a1 : Int) : Option (Bool) :=
  ck (0 ≤ (0 : Int) ∧ (0 : Int) ≤ gmin ((a0.length : Nat) : Int) 400 ∧ gmin ((a0.length : Nat) : Int) 400 ≤ ((a0.length : Nat) : Int)) <|
  (g15 ((a0.drop (0 : Int).toNat).take ((gmin ((a0.length : Nat) : Int) 400).toNat - (0 : Int).toNat))).bind fun v588 =>
  (g16 ((a0.drop (0 : Int).toNat).take ((gmin ((a0.length : Nat) : Int) 400).toNat - (0 : Int).toNat))).bind fun v590 =>
  (g17 a1).bind fun v592 =>
  ck ((0 + v592.length) * 1 ≤ 140737488355328) <|
  ck ((0 + v592.length + ((gmin ((a0.length : Nat) : Int) 400).toNat - (0 : Int).toNat)) * 1 ≤ 140737488355328) <|
  (g15 (([] ++ v592) ++ ((a0.drop (0 : Int).toNat).take ((gmin ((a0.length : Nat) : Int) 400).toNat - (0 : Int).toNat)))).bind fun v600 =>
  if ¬ v588.1 = v590.1 then
    some false
  else
    (
      if ¬ v588.2.1 = v590.2.1 then
        some false
      else
        (
          if ¬ ((v588.2.2 = true) ↔ (v590.2.2 = true)) then
            some false
          else
            (
              ck (isBytes v592) <|
              (g18 a1).bind fun v625 =>
              ck (isBytes v625) <|
              if ¬ ((strOf v592).data.toList = (strOf v625).data.toList) then
                some false
              else
                (
                  if v600.2.2 = true then
                    some false
                  else
                    (
                      if ¬ v600.2.1 = ((v592.length : Nat) : Int) then
                        some false
                      else
                        (
                          if v600.1 = a1 then
                            (
                              (g20).bind fun v632 =>
                              some v632
                            )
                          else
                            (
                              (g19 a1).bind fun v634 =>
                              if ¬ (v634 = true) then
                                (
                                  if v600.1 = 65533 then
                                    (
                                      (g20).bind fun v638 =>
                                      some v638
                                    )
                                  else
                                    some false
                                )
                              else
                                some false
                            )
                        )
                    )
                )
            )
        )
    )
noncomputable def k3 : Eng.CS := { f := 3, calm := true, more := 0, ι := (List Int) × Int × Bool, ok := fun i => g3 i.1 i.2.1 = some i.2.2, rds := fun _ => [], args := fun i => [.sl 1 i.1.length (ei .u8 i.1), .w (.v (.int .i32 (i.2.1)))], res := fun i => bS i.2.2 }
set_option maxRecDepth 8000 in
set_option maxHeartbeats 4000000 in
theorem k3_ok : CalmOk Try.prog k3 := by
  refine R.calmspec Try.func3 nm3 rfl ?_
  rintro ⟨a0, a1, r⟩ hok q _ args hargs
  match args, hargs with
  | [_, _], hargs =>
  obtain ⟨⟨A0, cp0, rfl, hc0, _, hR0⟩, rfl, _⟩ := hargs
  refine ⟨envC [k15, k16, k17, k18, k19, k20] false [], 6, envC_ok (css_cons ⟨fun _ => k15_ok, fun h => (by cases h)⟩ (css_cons ⟨fun _ => k16_ok, fun h => (by cases h)⟩ (css_cons ⟨fun h => (by cases h), fun _ => k17_ok⟩ (css_cons ⟨fun h => (by cases h), fun _ => k18_ok⟩ (css_cons ⟨fun _ => k19_ok, fun h => (by cases h)⟩ (css_cons ⟨fun _ => k20_ok, fun h => (by cases h)⟩ (css_nil))))))), rfl, (by intro x hx; simp only [List.mem_cons, List.not_mem_nil, or_false] at hx; rcases hx with rfl | rfl <;> rfl), ?_⟩
  have H : Gives (g3 a0 a1) (fun a => a = r) := ⟨r, hok, rfl⟩
  unfold g3 at H
  clear hok
  refine ob_sl hc0 H fun h584 H => ?_
  have hs585 := sl_ei hR0 rfl hc0 h584
  intro n586 hn587
  subst hn587
  obtain ⟨v588, hv589, H⟩ := call_st H
  refine ⟨(((a0.drop (0 : Int).toNat).take ((gmin ((a0.length : Nat) : Int) 400).toNat - (0 : Int).toNat)), v588), ⟨hv589⟩, ⟨trivial⟩, ?_⟩
  refine And.intro ⟨(hs585.2.1).symm, hs585.2.2, ei_len.trans ((show _ = _ from hs585.2.1).trans (Nat.mul_one _).symm), hs585.1⟩ ?_
  obtain ⟨v590, hv591, H⟩ := call_st H
  refine ⟨(((a0.drop (0 : Int).toNat).take ((gmin ((a0.length : Nat) : Int) 400).toNat - (0 : Int).toNat)), v590), ⟨hv591⟩, ⟨trivial⟩, ?_⟩
  refine And.intro ⟨(hs585.2.1).symm, hs585.2.2, ei_len.trans ((show _ = _ from hs585.2.1).trans (Nat.mul_one _).symm), hs585.1⟩ ?_
  obtain ⟨v592, hv593, H⟩ := call_st H
  refine ⟨(a1, v592), ⟨hv593⟩, ⟨trivial⟩, ?_⟩
  refine And.intro ⟨rfl⟩ ?_
  refine ob_app (by decide) (by first | exact ei_one | ((repeat (refine List.forall_mem_cons.2 ⟨rfl, ?_⟩)); intro y hy; cases hy; done) | (intro y hy; simp [ei, eb, es, ec] at hy; (first | (rcases hy with rfl | hy) | subst hy | skip); all_goals first | rfl | simp_all [Value.oneCell'])) H fun h594 H => ?_
  intro n595 hn596
  subst hn596
  refine rs_st hs585.1 (by rw [ei_len, hs585.2.1]; simp) ?_
  refine ob_app (by decide) (by first | exact ei_one | ((repeat (refine List.forall_mem_cons.2 ⟨rfl, ?_⟩)); intro y hy; cases hy; done) | (intro y hy; simp [ei, eb, es, ec] at hy; (first | (rcases hy with rfl | hy) | subst hy | skip); all_goals first | rfl | simp_all [Value.oneCell'])) H fun h597 H => ?_
  intro n598 hn599
  subst hn599
  obtain ⟨v600, hv601, H⟩ := call_st H
  refine ⟨((([] ++ v592) ++ ((a0.drop (0 : Int).toNat).take ((gmin ((a0.length : Nat) : Int) 400).toNat - (0 : Int).toNat))), v600), ⟨hv601⟩, ⟨trivial⟩, ?_⟩
  refine And.intro ⟨by first | rfl | (simp; done) | (simp only [List.nil_append, List.length_append, List.length_cons, List.length_nil, Nat.zero_add]; first | done | (have hh : (gmin ((a0.length : Nat) : Int) 400).toNat - (0 : Int).toNat = ((a0.drop (0 : Int).toNat).take ((gmin ((a0.length : Nat) : Int) 400).toNat - (0 : Int).toNat)).length := (hs585.2.1).symm; first | exact hh | exact Nat.add_left_cancel_iff.mpr hh | omega)), by first | rfl | (simp [ei, eb, es, ec]; done) | (simp only [ei, eb, es, ec, List.map_append, List.nil_append, List.append_assoc]; rfl)⟩ ?_
  refine And.intro ⟨by kernel_rfl⟩ ?_
  refine ⟨(Pn.calm 0 (Pn.calm 1 (Pn.calm 2 (Pn.calm 3 (Pn.calm 4 (Pn.calm 5 (Pn.calm 6 (Pn.calm 7 (Pn.calm 8 (Pn.calm 9 (Pn.calm 10 (Pn.calm 11 (Pn.calm 12 (Pn.calm 13 (Pn.calm 14 (Pn.calm 15 (Pn.calm 16 (Pn.eff 17 [16, 13, 12, 8, 11, 7, 3, 9, 10, 6, 2, 4, 5, 0, 1] (Pn.calm 18 (Pn.calm 19 (Pn.calm 20 (Pn.calm 21 (Pn.calm 22 (Pn.calm 23 (Pn.calm 24 (Pn.calm 25 (Pn.calm 26 (Pn.calm 27 (Pn.calm 28 (Pn.calm 29 Pn.done)))))))))))) Pn.no)))))))))))))))))), ⟨by kernel_rfl⟩, ?_⟩
  refine if_st H (fun h621 H => ?_) (fun h621 H => ?_)
  · refine And.intro ?_ trivial
    have hfin := fin_st H
    repeat (refine And.intro (Ob.mk (by first | (rw [← hfin] <;> first | exact rfl | exact Iff.rfl | exact ⟨rfl, rfl⟩ | exact decide_eq_true_iff | (refine ⟨?_, ?_⟩ <;> first | exact rfl | (simp only [ei, eb, es, ec, List.map_append, List.flatMap_append, List.nil_append, List.append_nil, List.append_assoc]; done) | omega | (simp only [List.nil_append, List.length_append, List.length_cons, List.length_nil]; omega) | (simp [ei, eb, es, ec]; done)) | (constructor <;> first | exact rfl | (simp only [ei, eb, es, ec, List.map_append, List.flatMap_append, List.nil_append, List.append_nil, List.append_assoc]; done) | omega | (simp only [List.nil_append, List.length_append, List.length_cons, List.length_nil]; omega) | (simp [ei, eb, es, ec]; done)) | exact rfl | (simp only [ei, eb, es, ec, List.map_append, List.flatMap_append, List.nil_append, List.append_nil, List.append_assoc]; done) | omega | (simp only [List.nil_append, List.length_append, List.length_cons, List.length_nil]; omega) | (simp [ei, eb, es, ec]; done) | simp [ei, eb, es, ec]) | first | exact rfl | exact Iff.rfl | exact ⟨rfl, rfl⟩ | exact decide_eq_true_iff | (refine ⟨?_, ?_⟩ <;> first | exact rfl | (simp only [ei, eb, es, ec, List.map_append, List.flatMap_append, List.nil_append, List.append_nil, List.append_assoc]; done) | omega | (simp only [List.nil_append, List.length_append, List.length_cons, List.length_nil]; omega) | (simp [ei, eb, es, ec]; done)) | (constructor <;> first | exact rfl | (simp only [ei, eb, es, ec, List.map_append, List.flatMap_append, List.nil_append, List.append_nil, List.append_assoc]; done) | omega | (simp only [List.nil_append, List.length_append, List.length_cons, List.length_nil]; omega) | (simp [ei, eb, es, ec]; done)) | exact rfl | (simp only [ei, eb, es, ec, List.map_append, List.flatMap_append, List.nil_append, List.append_nil, List.append_assoc]; done) | omega | (simp only [List.nil_append, List.length_append, List.length_cons, List.length_nil]; omega) | (simp [ei, eb, es, ec]; done) | simp [ei, eb, es, ec])) ?_)
    first | exact trivial | exact rfl
  · refine if_st H (fun h622 H => ?_) (fun h622 H => ?_)
    · refine And.intro ?_ trivial
      have hfin := fin_st H
      repeat (refine And.intro (Ob.mk (by first | (rw [← hfin] <;> first | exact rfl | exact Iff.rfl | exact ⟨rfl, rfl⟩ | exact decide_eq_true_iff | (refine ⟨?_, ?_⟩ <;> first | exact rfl | (simp only [ei, eb, es, ec, List.map_append, List.flatMap_append, List.nil_append, List.append_nil, List.append_assoc]; done) | omega | (simp only [List.nil_append, List.length_append, List.length_cons, List.length_nil]; omega) | (simp [ei, eb, es, ec]; done)) | (constructor <;> first | exact rfl | (simp only [ei, eb, es, ec, List.map_append, List.flatMap_append, List.nil_append, List.append_nil, List.append_assoc]; done) | omega | (simp only [List.nil_append, List.length_append, List.length_cons, List.length_nil]; omega) | (simp [ei, eb, es, ec]; done)) | exact rfl | (simp only [ei, eb, es, ec, List.map_append, List.flatMap_append, List.nil_append, List.append_nil, List.append_assoc]; done) | omega | (simp only [List.nil_append, List.length_append, List.length_cons, List.length_nil]; omega) | (simp [ei, eb, es, ec]; done) | simp [ei, eb, es, ec]) | first | exact rfl | exact Iff.rfl | exact ⟨rfl, rfl⟩ | exact decide_eq_true_iff | (refine ⟨?_, ?_⟩ <;> first | exact rfl | (simp only [ei, eb, es, ec, List.map_append, List.flatMap_append, List.nil_append, List.append_nil, List.append_assoc]; done) | omega | (simp only [List.nil_append, List.length_append, List.length_cons, List.length_nil]; omega) | (simp [ei, eb, es, ec]; done)) | (constructor <;> first | exact rfl | (simp only [ei, eb, es, ec, List.map_append, List.flatMap_append, List.nil_append, List.append_nil, List.append_assoc]; done) | omega | (simp only [List.nil_append, List.length_append, List.length_cons, List.length_nil]; omega) | (simp [ei, eb, es, ec]; done)) | exact rfl | (simp only [ei, eb, es, ec, List.map_append, List.flatMap_append, List.nil_append, List.append_nil, List.append_assoc]; done) | omega | (simp only [List.nil_append, List.length_append, List.length_cons, List.length_nil]; omega) | (simp [ei, eb, es, ec]; done) | simp [ei, eb, es, ec])) ?_)
      first | exact trivial | exact rfl
    · refine if_st H (fun h623 H => ?_) (fun h623 H => ?_)
      · refine And.intro ?_ trivial
        have hfin := fin_st H
        repeat (refine And.intro (Ob.mk (by first | (rw [← hfin] <;> first | exact rfl | exact Iff.rfl | exact ⟨rfl, rfl⟩ | exact decide_eq_true_iff | (refine ⟨?_, ?_⟩ <;> first | exact rfl | (simp only [ei, eb, es, ec, List.map_append, List.flatMap_append, List.nil_append, List.append_nil, List.append_assoc]; done) | omega | (simp only [List.nil_append, List.length_append, List.length_cons, List.length_nil]; omega) | (simp [ei, eb, es, ec]; done)) | (constructor <;> first | exact rfl | (simp only [ei, eb, es, ec, List.map_append, List.flatMap_append, List.nil_append, List.append_nil, List.append_assoc]; done) | omega | (simp only [List.nil_append, List.length_append, List.length_cons, List.length_nil]; omega) | (simp [ei, eb, es, ec]; done)) | exact rfl | (simp only [ei, eb, es, ec, List.map_append, List.flatMap_append, List.nil_append, List.append_nil, List.append_assoc]; done) | omega | (simp only [List.nil_append, List.length_append, List.length_cons, List.length_nil]; omega) | (simp [ei, eb, es, ec]; done) | simp [ei, eb, es, ec]) | first | exact rfl | exact Iff.rfl | exact ⟨rfl, rfl⟩ | exact decide_eq_true_iff | (refine ⟨?_, ?_⟩ <;> first | exact rfl | (simp only [ei, eb, es, ec, List.map_append, List.flatMap_append, List.nil_append, List.append_nil, List.append_assoc]; done) | omega | (simp only [List.nil_append, List.length_append, List.length_cons, List.length_nil]; omega) | (simp [ei, eb, es, ec]; done)) | (constructor <;> first | exact rfl | (simp only [ei, eb, es, ec, List.map_append, List.flatMap_append, List.nil_append, List.append_nil, List.append_assoc]; done) | omega | (simp only [List.nil_append, List.length_append, List.length_cons, List.length_nil]; omega) | (simp [ei, eb, es, ec]; done)) | exact rfl | (simp only [ei, eb, es, ec, List.map_append, List.flatMap_append, List.nil_append, List.append_nil, List.append_assoc]; done) | omega | (simp only [List.nil_append, List.length_append, List.length_cons, List.length_nil]; omega) | (simp [ei, eb, es, ec]; done) | simp [ei, eb, es, ec])) ?_)
        first | exact trivial | exact rfl
      · refine ob_str (l := v592) H fun h624 H => ?_
        refine And.intro ?_ trivial
        obtain ⟨v625, hv626, H⟩ := call_st H
        refine ⟨(a1, v625), ⟨hv626⟩, ⟨trivial⟩, ?_⟩
        refine And.intro ⟨rfl⟩ ?_
        refine And.intro ⟨rfl⟩ ?_
        refine ob_str (l := v625) H fun h627 H => ?_
        refine if_st H (fun h628 H => ?_) (fun h628 H => ?_)
        · have hfin := fin_st H
          repeat (refine And.intro (Ob.mk (by first | (rw [← hfin] <;> first | exact rfl | exact Iff.rfl | exact ⟨rfl, rfl⟩ | exact decide_eq_true_iff | (refine ⟨?_, ?_⟩ <;> first | exact rfl | (simp only [ei, eb, es, ec, List.map_append, List.flatMap_append, List.nil_append, List.append_nil, List.append_assoc]; done) | omega | (simp only [List.nil_append, List.length_append, List.length_cons, List.length_nil]; omega) | (simp [ei, eb, es, ec]; done)) | (constructor <;> first | exact rfl | (simp only [ei, eb, es, ec, List.map_append, List.flatMap_append, List.nil_append, List.append_nil, List.append_assoc]; done) | omega | (simp only [List.nil_append, List.length_append, List.length_cons, List.length_nil]; omega) | (simp [ei, eb, es, ec]; done)) | exact rfl | (simp only [ei, eb, es, ec, List.map_append, List.flatMap_append, List.nil_append, List.append_nil, List.append_assoc]; done) | omega | (simp only [List.nil_append, List.length_append, List.length_cons, List.length_nil]; omega) | (simp [ei, eb, es, ec]; done) | simp [ei, eb, es, ec]) | first | exact rfl | exact Iff.rfl | exact ⟨rfl, rfl⟩ | exact decide_eq_true_iff | (refine ⟨?_, ?_⟩ <;> first | exact rfl | (simp only [ei, eb, es, ec, List.map_append, List.flatMap_append, List.nil_append, List.append_nil, List.append_assoc]; done) | omega | (simp only [List.nil_append, List.length_append, List.length_cons, List.length_nil]; omega) | (simp [ei, eb, es, ec]; done)) | (constructor <;> first | exact rfl | (simp only [ei, eb, es, ec, List.map_append, List.flatMap_append, List.nil_append, List.append_nil, List.append_assoc]; done) | omega | (simp only [List.nil_append, List.length_append, List.length_cons, List.length_nil]; omega) | (simp [ei, eb, es, ec]; done)) | exact rfl | (simp only [ei, eb, es, ec, List.map_append, List.flatMap_append, List.nil_append, List.append_nil, List.append_assoc]; done) | omega | (simp only [List.nil_append, List.length_append, List.length_cons, List.length_nil]; omega) | (simp [ei, eb, es, ec]; done) | simp [ei, eb, es, ec])) ?_)
          first | exact trivial | exact rfl
        · refine if_st H (fun h629 H => ?_) (fun h629 H => ?_)
          · have hfin := fin_st H
            repeat (refine And.intro (Ob.mk (by first | (rw [← hfin] <;> first | exact rfl | exact Iff.rfl | exact ⟨rfl, rfl⟩ | exact decide_eq_true_iff | (refine ⟨?_, ?_⟩ <;> first | exact rfl | (simp only [ei, eb, es, ec, List.map_append, List.flatMap_append, List.nil_append, List.append_nil, List.append_assoc]; done) | omega | (simp only [List.nil_append, List.length_append, List.length_cons, List.length_nil]; omega) | (simp [ei, eb, es, ec]; done)) | (constructor <;> first | exact rfl | (simp only [ei, eb, es, ec, List.map_append, List.flatMap_append, List.nil_append, List.append_nil, List.append_assoc]; done) | omega | (simp only [List.nil_append, List.length_append, List.length_cons, List.length_nil]; omega) | (simp [ei, eb, es, ec]; done)) | exact rfl | (simp only [ei, eb, es, ec, List.map_append, List.flatMap_append, List.nil_append, List.append_nil, List.append_assoc]; done) | omega | (simp only [List.nil_append, List.length_append, List.length_cons, List.length_nil]; omega) | (simp [ei, eb, es, ec]; done) | simp [ei, eb, es, ec]) | first | exact rfl | exact Iff.rfl | exact ⟨rfl, rfl⟩ | exact decide_eq_true_iff | (refine ⟨?_, ?_⟩ <;> first | exact rfl | (simp only [ei, eb, es, ec, List.map_append, List.flatMap_append, List.nil_append, List.append_nil, List.append_assoc]; done) | omega | (simp only [List.nil_append, List.length_append, List.length_cons, List.length_nil]; omega) | (simp [ei, eb, es, ec]; done)) | (constructor <;> first | exact rfl | (simp only [ei, eb, es, ec, List.map_append, List.flatMap_append, List.nil_append, List.append_nil, List.append_assoc]; done) | omega | (simp only [List.nil_append, List.length_append, List.length_cons, List.length_nil]; omega) | (simp [ei, eb, es, ec]; done)) | exact rfl | (simp only [ei, eb, es, ec, List.map_append, List.flatMap_append, List.nil_append, List.append_nil, List.append_assoc]; done) | omega | (simp only [List.nil_append, List.length_append, List.length_cons, List.length_nil]; omega) | (simp [ei, eb, es, ec]; done) | simp [ei, eb, es, ec])) ?_)
            first | exact trivial | exact rfl
          · refine if_st H (fun h630 H => ?_) (fun h630 H => ?_)
            · have hfin := fin_st H
              repeat (refine And.intro (Ob.mk (by first | (rw [← hfin] <;> first | exact rfl | exact Iff.rfl | exact ⟨rfl, rfl⟩ | exact decide_eq_true_iff | (refine ⟨?_, ?_⟩ <;> first | exact rfl | (simp only [ei, eb, es, ec, List.map_append, List.flatMap_append, List.nil_append, List.append_nil, List.append_assoc]; done) | omega | (simp only [List.nil_append, List.length_append, List.length_cons, List.length_nil]; omega) | (simp [ei, eb, es, ec]; done)) | (constructor <;> first | exact rfl | (simp only [ei, eb, es, ec, List.map_append, List.flatMap_append, List.nil_append, List.append_nil, List.append_assoc]; done) | omega | (simp only [List.nil_append, List.length_append, List.length_cons, List.length_nil]; omega) | (simp [ei, eb, es, ec]; done)) | exact rfl | (simp only [ei, eb, es, ec, List.map_append, List.flatMap_append, List.nil_append, List.append_nil, List.append_assoc]; done) | omega | (simp only [List.nil_append, List.length_append, List.length_cons, List.length_nil]; omega) | (simp [ei, eb, es, ec]; done) | simp [ei, eb, es, ec]) | first | exact rfl | exact Iff.rfl | exact ⟨rfl, rfl⟩ | exact decide_eq_true_iff | (refine ⟨?_, ?_⟩ <;> first | exact rfl | (simp only [ei, eb, es, ec, List.map_append, List.flatMap_append, List.nil_append, List.append_nil, List.append_assoc]; done) | omega | (simp only [List.nil_append, List.length_append, List.length_cons, List.length_nil]; omega) | (simp [ei, eb, es, ec]; done)) | (constructor <;> first | exact rfl | (simp only [ei, eb, es, ec, List.map_append, List.flatMap_append, List.nil_append, List.append_nil, List.append_assoc]; done) | omega | (simp only [List.nil_append, List.length_append, List.length_cons, List.length_nil]; omega) | (simp [ei, eb, es, ec]; done)) | exact rfl | (simp only [ei, eb, es, ec, List.map_append, List.flatMap_append, List.nil_append, List.append_nil, List.append_assoc]; done) | omega | (simp only [List.nil_append, List.length_append, List.length_cons, List.length_nil]; omega) | (simp [ei, eb, es, ec]; done) | simp [ei, eb, es, ec])) ?_)
              first | exact trivial | exact rfl
            · refine if_st H (fun h631 H => ?_) (fun h631 H => ?_)
              · obtain ⟨v632, hv633, H⟩ := call_st H
                refine ⟨v632, ⟨hv633⟩, ⟨trivial⟩, ?_⟩
                have hfin := fin_st H
                repeat (refine And.intro (Ob.mk (by first | (rw [← hfin] <;> first | exact rfl | exact Iff.rfl | exact ⟨rfl, rfl⟩ | exact decide_eq_true_iff | (refine ⟨?_, ?_⟩ <;> first | exact rfl | (simp only [ei, eb, es, ec, List.map_append, List.flatMap_append, List.nil_append, List.append_nil, List.append_assoc]; done) | omega | (simp only [List.nil_append, List.length_append, List.length_cons, List.length_nil]; omega) | (simp [ei, eb, es, ec]; done)) | (constructor <;> first | exact rfl | (simp only [ei, eb, es, ec, List.map_append, List.flatMap_append, List.nil_append, List.append_nil, List.append_assoc]; done) | omega | (simp only [List.nil_append, List.length_append, List.length_cons, List.length_nil]; omega) | (simp [ei, eb, es, ec]; done)) | exact rfl | (simp only [ei, eb, es, ec, List.map_append, List.flatMap_append, List.nil_append, List.append_nil, List.append_assoc]; done) | omega | (simp only [List.nil_append, List.length_append, List.length_cons, List.length_nil]; omega) | (simp [ei, eb, es, ec]; done) | simp [ei, eb, es, ec]) | first | exact rfl | exact Iff.rfl | exact ⟨rfl, rfl⟩ | exact decide_eq_true_iff | (refine ⟨?_, ?_⟩ <;> first | exact rfl | (simp only [ei, eb, es, ec, List.map_append, List.flatMap_append, List.nil_append, List.append_nil, List.append_assoc]; done) | omega | (simp only [List.nil_append, List.length_append, List.length_cons, List.length_nil]; omega) | (simp [ei, eb, es, ec]; done)) | (constructor <;> first | exact rfl | (simp only [ei, eb, es, ec, List.map_append, List.flatMap_append, List.nil_append, List.append_nil, List.append_assoc]; done) | omega | (simp only [List.nil_append, List.length_append, List.length_cons, List.length_nil]; omega) | (simp [ei, eb, es, ec]; done)) | exact rfl | (simp only [ei, eb, es, ec, List.map_append, List.flatMap_append, List.nil_append, List.append_nil, List.append_assoc]; done) | omega | (simp only [List.nil_append, List.length_append, List.length_cons, List.length_nil]; omega) | (simp [ei, eb, es, ec]; done) | simp [ei, eb, es, ec])) ?_)
                first | exact trivial | exact rfl
              · obtain ⟨v634, hv635, H⟩ := call_st H
                refine ⟨(a1, v634), ⟨hv635⟩, ⟨trivial⟩, ?_⟩
                refine And.intro ⟨rfl⟩ ?_
                refine if_st H (fun h636 H => ?_) (fun h636 H => ?_)
                · refine if_st H (fun h637 H => ?_) (fun h637 H => ?_)
                  · obtain ⟨v638, hv639, H⟩ := call_st H
                    refine ⟨v638, ⟨hv639⟩, ⟨trivial⟩, ?_⟩
                    have hfin := fin_st H
                    repeat (refine And.intro (Ob.mk (by first | (rw [← hfin] <;> first | exact rfl | exact Iff.rfl | exact ⟨rfl, rfl⟩ | exact decide_eq_true_iff | (refine ⟨?_, ?_⟩ <;> first | exact rfl | (simp only [ei, eb, es, ec, List.map_append, List.flatMap_append, List.nil_append, List.append_nil, List.append_assoc]; done) | omega | (simp only [List.nil_append, List.length_append, List.length_cons, List.length_nil]; omega) | (simp [ei, eb, es, ec]; done)) | (constructor <;> first | exact rfl | (simp only [ei, eb, es, ec, List.map_append, List.flatMap_append, List.nil_append, List.append_nil, List.append_assoc]; done) | omega | (simp only [List.nil_append, List.length_append, List.length_cons, List.length_nil]; omega) | (simp [ei, eb, es, ec]; done)) | exact rfl | (simp only [ei, eb, es, ec, List.map_append, List.flatMap_append, List.nil_append, List.append_nil, List.append_assoc]; done) | omega | (simp only [List.nil_append, List.length_append, List.length_cons, List.length_nil]; omega) | (simp [ei, eb, es, ec]; done) | simp [ei, eb, es, ec]) | first | exact rfl | exact Iff.rfl | exact ⟨rfl, rfl⟩ | exact decide_eq_true_iff | (refine ⟨?_, ?_⟩ <;> first | exact rfl | (simp only [ei, eb, es, ec, List.map_append, List.flatMap_append, List.nil_append, List.append_nil, List.append_assoc]; done) | omega | (simp only [List.nil_append, List.length_append, List.length_cons, List.length_nil]; omega) | (simp [ei, eb, es, ec]; done)) | (constructor <;> first | exact rfl | (simp only [ei, eb, es, ec, List.map_append, List.flatMap_append, List.nil_append, List.append_nil, List.append_assoc]; done) | omega | (simp only [List.nil_append, List.length_append, List.length_cons, List.length_nil]; omega) | (simp [ei, eb, es, ec]; done)) | exact rfl | (simp only [ei, eb, es, ec, List.map_append, List.flatMap_append, List.nil_append, List.append_nil, List.append_assoc]; done) | omega | (simp only [List.nil_append, List.length_append, List.length_cons, List.length_nil]; omega) | (simp [ei, eb, es, ec]; done) | simp [ei, eb, es, ec])) ?_)
                    first | exact trivial | exact rfl
                  · have hfin := fin_st H
                    repeat (refine And.intro (Ob.mk (by first | (rw [← hfin] <;> first | exact rfl | exact Iff.rfl | exact ⟨rfl, rfl⟩ | exact decide_eq_true_iff | (refine ⟨?_, ?_⟩ <;> first | exact rfl | (simp only [ei, eb, es, ec, List.map_append, List.flatMap_append, List.nil_append, List.append_nil, List.append_assoc]; done) | omega | (simp only [List.nil_append, List.length_append, List.length_cons, List.length_nil]; omega) | (simp [ei, eb, es, ec]; done)) | (constructor <;> first | exact rfl | (simp only [ei, eb, es, ec, List.map_append, List.flatMap_append, List.nil_append, List.append_nil, List.append_assoc]; done) | omega | (simp only [List.nil_append, List.length_append, List.length_cons, List.length_nil]; omega) | (simp [ei, eb, es, ec]; done)) | exact rfl | (simp only [ei, eb, es, ec, List.map_append, List.flatMap_append, List.nil_append, List.append_nil, List.append_assoc]; done) | omega | (simp only [List.nil_append, List.length_append, List.length_cons, List.length_nil]; omega) | (simp [ei, eb, es, ec]; done) | simp [ei, eb, es, ec]) | first | exact rfl | exact Iff.rfl | exact ⟨rfl, rfl⟩ | exact decide_eq_true_iff | (refine ⟨?_, ?_⟩ <;> first | exact rfl | (simp only [ei, eb, es, ec, List.map_append, List.flatMap_append, List.nil_append, List.append_nil, List.append_assoc]; done) | omega | (simp only [List.nil_append, List.length_append, List.length_cons, List.length_nil]; omega) | (simp [ei, eb, es, ec]; done)) | (constructor <;> first | exact rfl | (simp only [ei, eb, es, ec, List.map_append, List.flatMap_append, List.nil_append, List.append_nil, List.append_assoc]; done) | omega | (simp only [List.nil_append, List.length_append, List.length_cons, List.length_nil]; omega) | (simp [ei, eb, es, ec]; done)) | exact rfl | (simp only [ei, eb, es, ec, List.map_append, List.flatMap_append, List.nil_append, List.append_nil, List.append_assoc]; done) | omega | (simp only [List.nil_append, List.length_append, List.length_cons, List.length_nil]; omega) | (simp [ei, eb, es, ec]; done) | simp [ei, eb, es, ec])) ?_)
                    first | exact trivial | exact rfl
                · have hfin := fin_st H
                  repeat (refine And.intro (Ob.mk (by first | (rw [← hfin] <;> first | exact rfl | exact Iff.rfl | exact ⟨rfl, rfl⟩ | exact decide_eq_true_iff | (refine ⟨?_, ?_⟩ <;> first | exact rfl | (simp only [ei, eb, es, ec, List.map_append, List.flatMap_append, List.nil_append, List.append_nil, List.append_assoc]; done) | omega | (simp only [List.nil_append, List.length_append, List.length_cons, List.length_nil]; omega) | (simp [ei, eb, es, ec]; done)) | (constructor <;> first | exact rfl | (simp only [ei, eb, es, ec, List.map_append, List.flatMap_append, List.nil_append, List.append_nil, List.append_assoc]; done) | omega | (simp only [List.nil_append, List.length_append, List.length_cons, List.length_nil]; omega) | (simp [ei, eb, es, ec]; done)) | exact rfl | (simp only [ei, eb, es, ec, List.map_append, List.flatMap_append, List.nil_append, List.append_nil, List.append_assoc]; done) | omega | (simp only [List.nil_append, List.length_append, List.length_cons, List.length_nil]; omega) | (simp [ei, eb, es, ec]; done) | simp [ei, eb, es, ec]) | first | exact rfl | exact Iff.rfl | exact ⟨rfl, rfl⟩ | exact decide_eq_true_iff | (refine ⟨?_, ?_⟩ <;> first | exact rfl | (simp only [ei, eb, es, ec, List.map_append, List.flatMap_append, List.nil_append, List.append_nil, List.append_assoc]; done) | omega | (simp only [List.nil_append, List.length_append, List.length_cons, List.length_nil]; omega) | (simp [ei, eb, es, ec]; done)) | (constructor <;> first | exact rfl | (simp only [ei, eb, es, ec, List.map_append, List.flatMap_append, List.nil_append, List.append_nil, List.append_assoc]; done) | omega | (simp only [List.nil_append, List.length_append, List.length_cons, List.length_nil]; omega) | (simp [ei, eb, es, ec]; done)) | exact rfl | (simp only [ei, eb, es, ec, List.map_append, List.flatMap_append, List.nil_append, List.append_nil, List.append_assoc]; done) | omega | (simp only [List.nil_append, List.length_append, List.length_cons, List.length_nil]; omega) | (simp [ei, eb, es, ec]; done) | simp [ei, eb, es, ec])) ?_)
                  first | exact trivial | exact rfl
noncomputable def e3 (n : Nat) (a0 : List Int) (a1 : Int) : Option (Bool) :=
  ck (0 ≤ (0 : Int) ∧ (0 : Int) ≤ gmin ((a0.length : Nat) : Int) 400 ∧ gmin ((a0.length : Nat) : Int) 400 ≤ ((a0.length : Nat) : Int)) <|
  (e15 n ((a0.drop (0 : Int).toNat).take ((gmin ((a0.length : Nat) : Int) 400).toNat - (0 : Int).toNat))).bind fun v588 =>
  (e16 n ((a0.drop (0 : Int).toNat).take ((gmin ((a0.length : Nat) : Int) 400).toNat - (0 : Int).toNat))).bind fun v590 =>
  (e17 n a1).bind fun v592 =>
  ck ((0 + v592.length) * 1 ≤ 140737488355328) <|
  ck ((0 + v592.length + ((gmin ((a0.length : Nat) : Int) 400).toNat - (0 : Int).toNat)) * 1 ≤ 140737488355328) <|
  (e15 n (([] ++ v592) ++ ((a0.drop (0 : Int).toNat).take ((gmin ((a0.length : Nat) : Int) 400).toNat - (0 : Int).toNat)))).bind fun v600 =>
  if ¬ v588.1 = v590.1 then
    some false
  else
    (
      if ¬ v588.2.1 = v590.2.1 then
        some false
      else
        (
          if ¬ ((v588.2.2 = true) ↔ (v590.2.2 = true)) then
            some false
          else
            (
              ck (isBytes v592) <|
              (e18 n a1).bind fun v625 =>
              ck (isBytes v625) <|
              if ¬ ((strOf v592).data.toList = (strOf v625).data.toList) then
                some false
              else
                (
                  if v600.2.2 = true then
                    some false
                  else
                    (
                      if ¬ v600.2.1 = ((v592.length : Nat) : Int) then
                        some false
                      else
                        (
                          if v600.1 = a1 then
                            (
                              (e20 n).bind fun v632 =>
                              some v632
                            )
                          else
                            (
                              (e19 n a1).bind fun v634 =>
                              if ¬ (v634 = true) then
                                (
                                  if v600.1 = 65533 then
                                    (
                                      (e20 n).bind fun v638 =>
                                      some v638
                                    )
                                  else
                                    some false
                                )
                              else
                                some false
                            )
                        )
                    )
                )
            )
        )
    )
theorem e3_le (n : Nat) (a0 : List Int) (a1 : Int) : Le (e3 n a0 a1) (g3 a0 a1) := by
  unfold e3 g3
  repeat' first | exact e15_le _ _ | exact e16_le _ _ | exact e17_le _ _ | exact e18_le _ _ | exact e19_le _ _ | exact e20_le _ | refine le_bind ?_ (fun _ => ?_) | refine le_ck ?_ | refine le_if ?_ ?_ | refine le_sm (fun _ => ?_) (fun _ => ?_) | refine le_jn (fun _ _ _ => ?_) (fun _ => ?_) | refine le_loop (fun _ => ?_) | with_reducible exact le_refl | apply_assumption

end Go.Proofs.Ytcnofjjiepcpjaa
