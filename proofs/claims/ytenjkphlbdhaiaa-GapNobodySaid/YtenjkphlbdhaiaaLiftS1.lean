/-
  Functions of the program, lifted: each with its walk. Printed by lift.py.
  Nothing here is trusted.
-/
import Derived.Test.YtenjkphlbdhaiaaLiftG2
import Derived.Test.YtenjkphlbdhaiaaLiftC1
import Derived.Test.YtenjkphlbdhaiaaBldB
set_option linter.unusedVariables false
set_option linter.unusedSimpArgs false
namespace Go.Proofs.Ytenjkphlbdhaiaa
open Go Go.Eng

theorem mo1_LiftS1 {p q : Prop} (k : q) (h : p := by first | exact rfl | exact Iff.rfl | exact ⟨rfl, rfl⟩ | exact decide_eq_true_iff | (constructor <;> first | exact rfl | (simp only [ei, eb, es, ec, c135, gmin, gmax, List.map_append, List.flatMap_append, List.nil_append, List.append_nil, List.append_assoc]; done) | omega | (simp only [List.nil_append, List.length_append, List.length_cons, List.length_nil]; omega) | (simp [ei, eb, es, ec, c135, gmin, gmax]; done)) | exact rfl | (simp only [ei, eb, es, ec, c135, gmin, gmax, List.map_append, List.flatMap_append, List.nil_append, List.append_nil, List.append_assoc]; done) | omega | (simp only [List.nil_append, List.length_append, List.length_cons, List.length_nil]; omega) | (simp [ei, eb, es, ec, c135, gmin, gmax]; done) | simp [ei, eb, es, ec, c135, gmin, gmax]) : Ob p ∧ q := ⟨⟨h⟩, k⟩
theorem mf1_LiftS1 {p q : Prop} (k : q) (h : p := by first | (rw [← hfin] <;> first | exact rfl | exact Iff.rfl | exact ⟨rfl, rfl⟩ | exact decide_eq_true_iff | (constructor <;> first | exact rfl | (simp only [ei, eb, es, ec, c135, gmin, gmax, List.map_append, List.flatMap_append, List.nil_append, List.append_nil, List.append_assoc]; done) | omega | (simp only [List.nil_append, List.length_append, List.length_cons, List.length_nil]; omega) | (simp [ei, eb, es, ec, c135, gmin, gmax]; done)) | exact rfl | (simp only [ei, eb, es, ec, c135, gmin, gmax, List.map_append, List.flatMap_append, List.nil_append, List.append_nil, List.append_assoc]; done) | omega | (simp only [List.nil_append, List.length_append, List.length_cons, List.length_nil]; omega) | (simp [ei, eb, es, ec, c135, gmin, gmax]; done) | simp [ei, eb, es, ec, c135, gmin, gmax]) | first | exact rfl | exact Iff.rfl | exact ⟨rfl, rfl⟩ | exact decide_eq_true_iff | (constructor <;> first | exact rfl | (simp only [ei, eb, es, ec, c135, gmin, gmax, List.map_append, List.flatMap_append, List.nil_append, List.append_nil, List.append_assoc]; done) | omega | (simp only [List.nil_append, List.length_append, List.length_cons, List.length_nil]; omega) | (simp [ei, eb, es, ec, c135, gmin, gmax]; done)) | exact rfl | (simp only [ei, eb, es, ec, c135, gmin, gmax, List.map_append, List.flatMap_append, List.nil_append, List.append_nil, List.append_assoc]; done) | omega | (simp only [List.nil_append, List.length_append, List.length_cons, List.length_nil]; omega) | (simp [ei, eb, es, ec, c135, gmin, gmax]; done) | simp [ei, eb, es, ec, c135, gmin, gmax]) : Ob p ∧ q := ⟨⟨h⟩, k⟩
/-- (*strings.Builder).WriteString -/
noncomputable def g54 (a0 : List Int) (a1 : ByteArray) : Option (Int × List Int) :=
  (g92 a0).bind fun v1 =>
  ck (v1.length + a1.size ≤ 140737488355328) <|
  some ((a1.size : Int), (v1 ++ bytesOf a1))
noncomputable def k54 : Eng.CS := { f := 54, calm := false, more := 3, ι := (List Int) × ByteArray × (Int × List Int), ok := fun i => g54 i.1 i.2.1 = some i.2.2, rds := fun _ => [], args := fun i => [.w (.lp 0 0), .w (.v (.string (i.2.1)))], res := fun i => .tup [.v (.int .i64 (i.2.2.1)), .bad], L' := fun i => [(0, .cells 88 [.lq 0, .own 2]), (2, .arr 5 1 i.2.2.2.length (ei .u8 i.2.2.2))], rn := [(100000, 1, 5, 1)], keys := 2, L := fun i => [(0, .cells 88 [.lq 0, .own 1]), (1, .arr 5 1 i.1.length (ei .u8 i.1))] }
set_option maxRecDepth 8000 in
set_option maxHeartbeats 4000000 in
theorem k54_ok : CSOk Try.prog k54 := by
  refine R.cspec Try.func54 nm54 rfl ?_
  rintro ⟨a0, a1, r⟩ hok q _ args hargs
  dsimp only [k54] at hargs ⊢
  match args, hargs with
  | [_, _], hargs =>
  obtain ⟨rfl, rfl, _⟩ := hargs
  refine ⟨envC [k92] false [], 6, envC_ok (css_cons ⟨fun h => (by cases h), fun _ => k92_ok⟩ (css_nil)), ?_⟩
  have H : Gives (g54 a0 a1) (fun a => a = r) := ⟨r, hok, rfl⟩
  unfold g54 at H
  clear hok
  obtain ⟨v1, hv2, H⟩ := call_st H
  refine ⟨(a0, v1), ⟨hv2⟩, ⟨trivial⟩, ?_⟩
  refine And.intro ⟨rfl⟩ ?_
  refine mo1_LiftS1 ?_
  refine ob_ck H fun h3 H => ?_
  intro n4 zs6 hn5 hz7
  obtain rfl : n4 = (v1 ++ bytesOf a1).length := hn5.trans (len_appS (xs := v1) (s := a1))
  obtain rfl : zs6 = ei .u8 (v1 ++ bytesOf a1) := hz7.trans (ei_appS (xs := v1) (s := a1))
  have hfin := fin_st H
  repeat refine mf1_LiftS1 ?_
  first | exact trivial | exact rfl

/-- (*placard/gap.Buffer).Text -/
noncomputable def g16 (a0 : (Int × List ByteArray × Int × Int)) : Option (ByteArray) :=
  jn (α := _) (β := List Int) (fun k36 =>
      (g11 a0).bind fun v37 =>
      (loopO (σ := List Int × Int) (ρ := List Int) (fun s41 =>
          if s41.2 < ((v37.length : Nat) : Int) then
            (
              ck (0 ≤ s41.2 ∧ s41.2 < ((v37.length : Nat) : Int)) <|
              (g54 s41.1 (v37.getD s41.2.toNat default)).bind fun v56 =>
              ck (inR .i64 (s41.2 + 1)) <|
              some (.go (v56.2, s41.2 + 1))
            )
          else
            some (.out s41.1)
        ) ([], 0)).bind fun o53 =>
        k36 o53
  ) (fun v35 =>
    (g55 v35).bind fun v60 =>
    some v60
  )
noncomputable def k16 : Eng.CS := { f := 16, calm := true, more := 0, ι := (Int × List ByteArray × Int × Int) × ByteArray, ok := fun i => g16 i.1 = some i.2, rds := fun _ => [], args := fun i => [.pt [.w (.int .i64 i.1.1), .row 1 i.1.2.1.length (es i.1.2.1), .w (.int .i64 i.1.2.2.1), .w (.int .i64 i.1.2.2.2)]], res := fun i => .v (.string (i.2)) }
set_option maxRecDepth 8000 in
set_option maxHeartbeats 4000000 in
theorem k16_ok : CalmOk Try.prog k16 := by
  refine R.calmspec Try.func16 nm16 rfl ?_
  rintro ⟨a0, r⟩ hok q _ args hargs
  dsimp only [k16] at hargs ⊢
  match args, hargs with
  | [_], hargs =>
  obtain ⟨⟨P0, us0, rfl, hs0, _, hR0, hpc0⟩, _⟩ := hargs
  match us0, hR0, hpc0 with
  | [_, _, _, _], hR0, hpc0 =>
  obtain ⟨rfl, ⟨A0_1, c0_1, rfl, hcr0_1, _, hRr0_1⟩, rfl, rfl, _⟩ := hpc0
  refine ⟨envC [k11, k54, k55] false [(16, 5)], 6, envC_ok (css_cons ⟨fun h => (by cases h), fun _ => k11_ok⟩ (css_cons ⟨fun h => (by cases h), fun _ => k54_ok⟩ (css_cons ⟨fun h => (by cases h), fun _ => k55_ok⟩ (css_nil)))), rfl, (by intro x hx; simp only [List.mem_cons, List.not_mem_nil, or_false] at hx; rcases hx with rfl <;> rfl), ?_⟩
  have H : Gives (g16 a0) (fun a => a = r) := ⟨r, hok, rfl⟩
  unfold g16 at H
  clear hok
  refine R.cut_fam H 21 [3] [] (fun v35 => []) (fun v35 => [(1, .cells 88 [.lq 1, .own 21]), (21, .arr 5 1 (v35.length) (ei .u8 (v35)))]) [] 1 (fun H => ?_)
  refine And.intro ?_ ?_
  · obtain ⟨v37, hv38, H⟩ := call_st H
    refine ⟨(a0, v37), ⟨hv38⟩, ⟨trivial⟩, ?_⟩
    refine And.intro ⟨hs0, _, rfl, hR0, rfl, ⟨_, _, rfl, hcr0_1, es_len.trans (Nat.mul_one _).symm, hRr0_1⟩, rfl, rfl, trivial⟩ ?_
    refine R.loop_fam (bind_st H) [0, 6, 7] [(100001, 1, 5, 1)] (fun _ s41 => [(8, .v (.int .i64 (s41.2)))]) (fun _ s41 => [(1, .cells 88 [.lq 1, .own 16]), (16, .arr 5 1 (s41.1.length) (ei .u8 (s41.1)))]) 1 (fun n59 H => ?_)
    refine ⟨(n59, _), ⟨H⟩, ⟨trivial⟩, ?_⟩
    repeat refine mo1_LiftS1 ?_
    rintro ⟨m0, s41⟩ H _
    obtain ⟨m42, hm0, H⟩ := IG_succ H
    dsimp only at hm0
    subst hm0
    try dsimp only at H
    refine if_st H (fun h54 H => ?_) (fun h54 H => ?_)
    · refine ob_ck H fun h55 H => ?_
      refine ld_str (e := v37.getD s41.2.toNat default) (own_get (ys := es v37) (by first | rfl | simp [ei, eb, es, ec, c135]) (es_get (l := v37) (by first | exact tn h55 | (have := tn h55; simp at this ⊢; omega) | (have := tn h55; simp; omega)))) ?_
      obtain ⟨v56, hv57, H⟩ := call_st H
      refine ⟨(s41.1, v37.getD s41.2.toNat default, v56), ⟨hv57⟩, ⟨trivial⟩, ?_⟩
      refine And.intro ⟨rfl⟩ ?_
      refine And.intro ⟨rfl⟩ ?_
      refine mo1_LiftS1 ?_
      refine ob_ck H fun h58 H => ?_
      replace H := some_st H
      refine ⟨(m42, (v56.2, s41.2 + 1)), ⟨H, Nat.lt_succ_self _⟩, ⟨trivial⟩, ⟨rfl⟩, ?_⟩
      repeat refine mo1_LiftS1 ?_
      first | exact trivial | exact rfl
    · replace H := some_st H
      dsimp only [stp, sm] at H
      refine ⟨s41.1, ⟨H⟩, ⟨rfl⟩, ?_⟩
      repeat refine mo1_LiftS1 ?_
      first | exact trivial | exact rfl
  · intro v35 H
    obtain ⟨v60, hv61, H⟩ := call_st H
    refine ⟨(v35, v60), ⟨hv61⟩, ⟨trivial⟩, ?_⟩
    refine And.intro ⟨rfl⟩ ?_
    refine mo1_LiftS1 ?_
    have hfin := fin_st H
    repeat refine mf1_LiftS1 ?_
    first | exact trivial | exact rfl

end Go.Proofs.Ytenjkphlbdhaiaa
